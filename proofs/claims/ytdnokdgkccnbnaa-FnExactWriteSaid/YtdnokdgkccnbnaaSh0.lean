/- What the bodies of some functions of the program come to in the abstract machine. -/
import Derived.Test.YtdnokdgkccnbnaaProg
import Derived.Test.YtdnokdgkccnbnaaAx3
set_option linter.unusedVariables false
namespace Go.Proofs.Ytdnokdgkccnbnaa.Ax
open Go
set_option maxRecDepth 100000
/-! 3: laws.FnExactWrite -/
noncomputable def S3 (C : Calling) (L : Body → Body) (t : Tm) (H : Hp) (n : Nat) : Option (Value × Hp × Nat) :=
  (vcells (t 0)).bind fun c2 =>
  let H1 := H.set (n) (some (.row c2 0 true))
  (ld true 1 (ptr (n) 0) H1).bind fun v3 =>
  (C 7 [v3, .int .i64 1048576] H1 (n + 7)).bind fun q4 =>
  (binK .plain .lss q4.1 (.int .i64 0)).bind fun v5 =>
  csel v5
    (some (.bool true, q4.2.1, q4.2.2 + 3))
    ((ld true 1 (ptr (n) 0) q4.2.1).bind fun v6 =>
     (C 9 [v6] q4.2.1 (q4.2.2 + 7)).bind fun q7 =>
     (C 8 [q7.1, t 1] q7.2.1 (q7.2.2)).bind fun q8 =>
     (ld true 1 (ptr (n) 0) q8.2.1).bind fun v9 =>
     (C 9 [v9] q8.2.1 (q8.2.2 + 4)).bind fun q10 =>
     let H11 := q10.2.1.set (q8.2.2 + 2) (some (.row [nilS] 0 true))
     (st true 1 (ptr (q8.2.2 + 2) 0) q10.1 H11).bind fun H12 =>
     (ld true 1 (ptr (q8.2.2 + 2) 0) H12).bind fun v13 =>
     (C 10 [v13, t 1] H12 (q10.2.2 + 4)).bind fun q14 =>
     (binK .plain .neq q14.1 q8.1).bind fun v15 =>
     csel v15
       (some (.bool false, q14.2.1, q14.2.2 + 4))
       ((ld true 1 (ptr (q8.2.2 + 2) 0) q14.2.1).bind fun v16 =>
        (ld true 1 (ptr (n) 0) q14.2.1).bind fun v17 =>
        (C 9 [v17] q14.2.1 (q14.2.2 + 8)).bind fun q18 =>
        ask (ld true 1 (ptr (q8.2.2 + 2) 0) q18.2.1 = some v16) <|
        (C 11 [v16, q18.1] q18.2.1 (q18.2.2)).bind fun q19 =>
        (un .not q19.1).bind fun v20 =>
        csel v20
          (some (.bool false, q19.2.1, q19.2.2 + 1))
          (some (.bool true, q19.2.1, q19.2.2 + 1))))
theorem s3 (C : Calling) (L : Body → Body) (t : Tm) (H : Hp) (n : Nat) : bodyK Try.prog C L Try.f3 t H n = S3 C L t H n := by kernel_rfl
theorem c3 (args : List Value) (H : Hp) (n : Nat) : Call Try.prog 3 args H n = S3 (Call Try.prog) Loop (argsT args) H n := (Call_body Try.func3 args H n).trans (s3 ..)
/-! 7: laws.szPool -/
noncomputable def S7 (C : Calling) (L : Body → Body) (t : Tm) (H : Hp) (n : Nat) : Option (Value × Hp × Nat) :=
  (vcells (t 0)).bind fun c2 =>
  let H1 := H.set (n) (some (.row c2 0 true))
  (fieldA 0 (ptr (n) 0)).bind fun v3 =>
  (ld false 1 v3 H1).bind fun v4 =>
  (C 23 [v4, t 1] H1 (n + 7)).bind fun q5 =>
  (binK .plain .lss q5.1 (.int .i64 0)).bind fun v6 =>
  csel v6
    (some (.int .i64 (-1), q5.2.1, q5.2.2 + 3))
    (some (q5.1, q5.2.1, q5.2.2 + 4))
theorem s7 (C : Calling) (L : Body → Body) (t : Tm) (H : Hp) (n : Nat) : bodyK Try.prog C L Try.f7 t H n = S7 C L t H n := by kernel_rfl
theorem c7 (args : List Value) (H : Hp) (n : Nat) : Call Try.prog 7 args H n = S7 (Call Try.prog) Loop (argsT args) H n := (Call_body Try.func7 args H n).trans (s7 ..)
/-! 8: spec.Write -/
noncomputable def S8 (C : Calling) (L : Body → Body) (t : Tm) (H : Hp) (n : Nat) : Option (Value × Hp × Nat) :=
  (vcells (t 0)).bind fun c2 =>
  let H1 := H.set (n) (some (.row c2 0 true))
  (ld true 1 (ptr (n) 0) H1).bind fun v3 =>
  (C 24 [v3] H1 (n + 11)).bind fun q4 =>
  (un .not q4.1).bind fun v5 =>
  let t7 : Tm := put (put (put (put (put (put t 2 (ptr (n) 0)) 4 (.string ⟨#[]⟩)) 6 v3) 7 q4.1) 8 v5) 9 v5
  (gsel v5 false
    ((ld true 1 (ptr (n) 0) q4.2.1).bind fun v8 =>
     (C 25 [v8, t7 1] q4.2.1 (q4.2.2)).bind fun q9 =>
     (un .not q9.1).bind fun v10 =>
     some (put (put (put (put t7 10 v8) 11 (t7 1)) 12 q9.1) 13 v10, q9.2.1, q9.2.2))
    (some (put (put (put (put t7 10 (.tuple #[])) 11 (.tuple #[])) 12 (.tuple #[])) 13 (.tuple #[]), q4.2.1, q4.2.2))
  ).bind fun (q6 : R3) =>
  (pickV (q6.1 9) (.bool true) (q6.1 13)).bind fun v11 =>
  csel v11
    (some (.string ⟨#[]⟩, q6.2.1, q6.2.2 + 1))
    ((ld true 1 (q6.1 2) q6.2.1).bind fun v12 =>
     (C 26 [v12, q6.1 1, .string ⟨#[]⟩] q6.2.1 (q6.2.2 + 4)).bind fun q13 =>
     (lenV true q13.1).bind fun v14 =>
     (binK .plain .gtr v14 (.int .i64 400)).bind fun v15 =>
     csel v15
       (some (.string ⟨#[]⟩, q13.2.1, q13.2.2 + 4))
       (some (q13.1, q13.2.1, q13.2.2 + 5)))
theorem s8 (C : Calling) (L : Body → Body) (t : Tm) (H : Hp) (n : Nat) : bodyK Try.prog C L Try.f8 t H n = S8 C L t H n := by kernel_rfl
theorem c8 (args : List Value) (H : Hp) (n : Nat) : Call Try.prog 8 args H n = S8 (Call Try.prog) Loop (argsT args) H n := (Call_body Try.func8 args H n).trans (s8 ..)
/-! 9: laws.toPool -/
noncomputable def S9 (C : Calling) (L : Body → Body) (t : Tm) (H : Hp) (n : Nat) : Option (Value × Hp × Nat) :=
  (vcells (t 0)).bind fun c2 =>
  let H1 := H.set (n) (some (.row c2 0 true))
  let H3 := H1.set (n + 1) (some (.row [nilS] 0 true))
  let H4 := H3.set (n + 2) (some (.row [nilS] 0 true))
  (fieldA 0 (ptr (n) 0)).bind fun v5 =>
  (ld false 1 v5 H4).bind fun v6 =>
  (C 27 [v6] H4 (n + 8)).bind fun q7 =>
  (fieldA 0 (ptr (n + 2) 0)).bind fun v8 =>
  (st false 1 v8 q7.1 q7.2.1).bind fun H9 =>
  (ld true 1 (ptr (n + 2) 0) H9).bind fun v10 =>
  (st true 1 (ptr (n + 1) 0) v10 H9).bind fun H11 =>
  (ld true 1 (ptr (n + 1) 0) H11).bind fun v12 =>
  some (v12, H11, q7.2.2 + 2)
theorem s9 (C : Calling) (L : Body → Body) (t : Tm) (H : Hp) (n : Nat) : bodyK Try.prog C L Try.f9 t H n = S9 C L t H n := by kernel_rfl
theorem c9 (args : List Value) (H : Hp) (n : Nat) : Call Try.prog 9 args H n = S9 (Call Try.prog) Loop (argsT args) H n := (Call_body Try.func9 args H n).trans (s9 ..)
/-! 10: impl.Write -/
noncomputable def S10 (C : Calling) (L : Body → Body) (t : Tm) (H : Hp) (n : Nat) : Option (Value × Hp × Nat) :=
  (vcells (t 0)).bind fun c2 =>
  let H1 := H.set (n) (some (.row c2 0 true))
  (ld true 1 (ptr (n) 0) H1).bind fun v3 =>
  (C 22 [v3] H1 (n + 11)).bind fun q4 =>
  (un .not q4.1).bind fun v5 =>
  let t7 : Tm := put (put (put (put (put (put t 2 (ptr (n) 0)) 4 (.string ⟨#[]⟩)) 6 v3) 7 q4.1) 8 v5) 9 v5
  (gsel v5 false
    ((ld true 1 (ptr (n) 0) q4.2.1).bind fun v8 =>
     (C 28 [v8, t7 1] q4.2.1 (q4.2.2)).bind fun q9 =>
     (un .not q9.1).bind fun v10 =>
     some (put (put (put (put t7 10 v8) 11 (t7 1)) 12 q9.1) 13 v10, q9.2.1, q9.2.2))
    (some (put (put (put (put t7 10 (.tuple #[])) 11 (.tuple #[])) 12 (.tuple #[])) 13 (.tuple #[]), q4.2.1, q4.2.2))
  ).bind fun (q6 : R3) =>
  (pickV (q6.1 9) (.bool true) (q6.1 13)).bind fun v11 =>
  csel v11
    (some (.string ⟨#[]⟩, q6.2.1, q6.2.2 + 1))
    ((ld true 1 (q6.1 2) q6.2.1).bind fun v12 =>
     (bld [nilS, nilS] [(0, 1, v12)]).bind fun v13 =>
     (vcells v13).bind fun c15 =>
     let H14 := q6.2.1.set (q6.2.2 + 2) (some (.row c15 0 true))
     (fieldA 0 (q6.1 2)).bind fun v16 =>
     (ld false 1 v16 H14).bind fun v17 =>
     (idxA 5 v17 (q6.1 1)).bind fun v18 =>
     (fieldA 0 v18).bind fun v19 =>
     (ld false 1 v19 H14).bind fun v20 =>
     (binK .plain .eql v20 (.int .i64 1)).bind fun v21 =>
     csel v21
       (some (.string ⟨#[40, 41]⟩, H14, q6.2.2 + 12))
       ((C 29 [ptr (q6.2.2 + 2) 0, q6.1 1] H14 (q6.2.2 + 14)).bind fun q22 =>
        (C 30 [ptr (q6.2.2 + 2) 0] q22.2.1 (q22.2.2 + 2)).bind fun q23 =>
        csel q23.1
          (some (.string ⟨#[]⟩, q23.2.1, q23.2.2 + 1))
          ((nilchk (ptr (q6.2.2 + 2) 0)).bind fun v24 =>
           (fieldA 1 v24).bind fun v25 =>
           (ld false 1 v25 q23.2.1).bind fun v26 =>
           (conv .bytesToStr (q23.2.2 + 4) v26 q23.2.1).bind fun p27 =>
           some (p27.1, p27.2, q23.2.2 + 6))))
theorem s10 (C : Calling) (L : Body → Body) (t : Tm) (H : Hp) (n : Nat) : bodyK Try.prog C L Try.f10 t H n = S10 C L t H n := by kernel_rfl
theorem c10 (args : List Value) (H : Hp) (n : Nat) : Call Try.prog 10 args H n = S10 (Call Try.prog) Loop (argsT args) H n := (Call_body Try.func10 args H n).trans (s10 ..)
/-! 11: laws.eqPool -/
noncomputable def S11 (C : Calling) (L : Body → Body) (t : Tm) (H : Hp) (n : Nat) : Option (Value × Hp × Nat) :=
  (vcells (t 0)).bind fun c2 =>
  let H1 := H.set (n) (some (.row c2 0 true))
  (vcells (t 1)).bind fun c4 =>
  let H3 := H1.set (n + 1) (some (.row c4 0 true))
  (fieldA 0 (ptr (n) 0)).bind fun v5 =>
  (ld false 1 v5 H3).bind fun v6 =>
  (fieldA 0 (ptr (n + 1) 0)).bind fun v7 =>
  (ld false 1 v7 H3).bind fun v8 =>
  (C 31 [v6, v8] H3 (n + 9)).bind fun q9 =>
  (un .not q9.1).bind fun v10 =>
  csel v10
    (some (.bool false, q9.2.1, q9.2.2 + 1))
    (some (.bool true, q9.2.1, q9.2.2 + 1))
theorem s11 (C : Calling) (L : Body → Body) (t : Tm) (H : Hp) (n : Nat) : bodyK Try.prog C L Try.f11 t H n = S11 C L t H n := by kernel_rfl
theorem c11 (args : List Value) (H : Hp) (n : Nat) : Call Try.prog 11 args H n = S11 (Call Try.prog) Loop (argsT args) H n := (Call_body Try.func11 args H n).trans (s11 ..)
/-! 22: impl.PoolOk -/
noncomputable def S22L0 (C : Calling) (L : Body → Body) : Body := fun t H n =>
  (binK .plain .lss (t 8) (t 7)).bind fun v7 =>
  csel v7
    ((idxA 5 (t 6) (t 8)).bind fun v8 =>
     (ld true 5 v8 H).bind fun v9 =>
     let H10 := H.set (n + 4) (some (.row [.int .i64 0, .int .i64 0, .string ⟨#[]⟩, .int .i64 0, .int .i64 0] 0 true))
     (st true 5 (ptr (n + 4) 0) v9 H10).bind fun H11 =>
     (ld true 5 (ptr (n + 4) 0) H11).bind fun v12 =>
     (C 48 [v12, t 8] H11 (n + 11)).bind fun q13 =>
     (un .not q13.1).bind fun v14 =>
     csel v14
       (some ⟨.ret, put (put (put (put (put (put (put (put (put (put (put t 9 v7) 10 (t 8)) 11 v8) 12 v9) 4 (ptr (n + 4) 0)) 3 (t 8)) 13 v12) 14 (t 8)) 15 q13.1) 16 v14) 2 (.bool false), q13.2.1, q13.2.2 + 1⟩)
       ((binK .plain .add (t 8) (.int .i64 1)).bind fun v15 =>
        some ⟨.normal, put (put (put (put (put (put (put (put (put (put (put (put t 9 v7) 10 (t 8)) 11 v8) 12 v9) 4 (ptr (n + 4) 0)) 3 (t 8)) 13 v12) 14 (t 8)) 15 q13.1) 16 v14) 17 v15) 8 v15, q13.2.1, q13.2.2 + 2⟩))
    (some ⟨(.exit 0), put t 9 v7, H, n + 1⟩)
noncomputable def S22 (C : Calling) (L : Body → Body) (t : Tm) (H : Hp) (n : Nat) : Option (Value × Hp × Nat) :=
  (vcells (t 0)).bind fun c2 =>
  let H1 := H.set (n) (some (.row c2 0 true))
  (fieldA 0 (ptr (n) 0)).bind fun v3 =>
  (ld false 1 v3 H1).bind fun v4 =>
  (lenV false v4).bind fun v5 =>
  (L (S22L0 C L) (put (put (put (put (put (put t 1 (ptr (n) 0)) 2 (.bool false)) 5 v3) 6 v4) 7 v5) 8 (.int .i64 0)) H1 (n + 6)).bind fun (o6 : Out) =>
  let o16 := outOf 0 o6
  thenK o16
    ((fieldA 0 (o16.t 1)).bind fun v17 =>
     (ld false 1 v17 o16.H).bind fun v18 =>
     (lenV false v18).bind fun v19 =>
     (binK .plain .leq v19 (.int .i64 3000)).bind fun v20 =>
     some (v20, o16.H, o16.n + 5))
    (finE o16.e
       (some (o16.t 2, o16.H, o16.n)))
theorem s22 (C : Calling) (L : Body → Body) (t : Tm) (H : Hp) (n : Nat) : bodyK Try.prog C L Try.f22 t H n = S22 C L t H n := by kernel_rfl
theorem c22 (args : List Value) (H : Hp) (n : Nat) : Call Try.prog 22 args H n = S22 (Call Try.prog) Loop (argsT args) H n := (Call_body Try.func22 args H n).trans (s22 ..)
/-! 23: laws.szNodeS -/
noncomputable def S23L0 (C : Calling) (L : Body → Body) : Body := fun t H n =>
  (lenV false (t 0)).bind fun v5 =>
  (binK .plain .lss (t 5) v5).bind fun v6 =>
  csel v6
    ((idxA 5 (t 0) (t 5)).bind fun v7 =>
     (ld true 5 v7 H).bind fun v8 =>
     (C 49 [v8, t 1] H (n + 11)).bind fun q9 =>
     (binK .plain .lss q9.1 (.int .i64 0)).bind fun v10 =>
     csel v10
       (some ⟨.ret, put (put (put (put (put (put (put (put (put (put (put (put (put (put t 12 (t 5)) 13 (t 0)) 14 v5) 15 v6) 18 (t 0)) 19 (t 5)) 20 v7) 21 v8) 22 (t 1)) 23 q9.1) 1 q9.1) 24 q9.1) 25 v10) 4 (.int .i64 (-1)), q9.2.1, q9.2.2 + 3⟩)
       ((binK .plain .add (t 5) (.int .i64 1)).bind fun v11 =>
        some ⟨.normal, put (put (put (put (put (put (put (put (put (put (put (put (put (put (put (put t 12 (t 5)) 13 (t 0)) 14 v5) 15 v6) 18 (t 0)) 19 (t 5)) 20 v7) 21 v8) 22 (t 1)) 23 q9.1) 1 q9.1) 24 q9.1) 25 v10) 16 (t 5)) 17 v11) 5 v11, q9.2.1, q9.2.2 + 5⟩))
    (some ⟨(.exit 0), put (put (put (put t 12 (t 5)) 13 (t 0)) 14 v5) 15 v6, H, n + 4⟩)
noncomputable def S23 (C : Calling) (L : Body → Body) (t : Tm) (H : Hp) (n : Nat) : Option (Value × Hp × Nat) :=
  (lenV false (t 0)).bind fun v1 =>
  (binK .plain .sub (t 1) v1).bind fun v2 =>
  (binK .plain .lss v2 (.int .i64 0)).bind fun v3 =>
  csel v3
    (some (.int .i64 (-1), H, n + 9))
    ((L (S23L0 C L) (put (put (put (put (put (put (put (put (put t 4 (.int .i64 0)) 6 (t 1)) 7 (t 0)) 8 v1) 9 v2) 1 v2) 10 v2) 11 v3) 5 (.int .i64 0)) H (n + 9)).bind fun (o4 : Out) =>
     let o12 := outOf 0 o4
     thenK o12
       (some (o12.t 1, o12.H, o12.n + 2))
       (finE o12.e
          (some (o12.t 4, o12.H, o12.n))))
theorem s23 (C : Calling) (L : Body → Body) (t : Tm) (H : Hp) (n : Nat) : bodyK Try.prog C L Try.f23 t H n = S23 C L t H n := by kernel_rfl
theorem c23 (args : List Value) (H : Hp) (n : Nat) : Call Try.prog 23 args H n = S23 (Call Try.prog) Loop (argsT args) H n := (Call_body Try.func23 args H n).trans (s23 ..)
/-! 24: spec.PoolOk -/
noncomputable def S24L0 (C : Calling) (L : Body → Body) : Body := fun t H n =>
  (fieldA 0 (t 1)).bind fun v4 =>
  (ld false 1 v4 H).bind fun v5 =>
  (lenV false v5).bind fun v6 =>
  (binK .plain .lss (t 3) v6).bind fun v7 =>
  csel v7
    ((fieldA 0 (t 1)).bind fun v8 =>
     (ld false 1 v8 H).bind fun v9 =>
     (idxA 5 v9 (t 3)).bind fun v10 =>
     (ld true 5 v10 H).bind fun v11 =>
     (C 50 [v11, t 3] H (n + 13)).bind fun q12 =>
     (un .not q12.1).bind fun v13 =>
     csel v13
       (some ⟨.ret, put (put (put (put (put (put (put (put (put (put (put (put (put (put t 4 (t 3)) 5 v4) 6 v5) 7 v6) 8 v7) 11 v8) 12 v9) 13 (t 3)) 14 v10) 15 v11) 16 (t 3)) 17 q12.1) 18 v13) 2 (.bool false), q12.2.1, q12.2.2 + 1⟩)
       ((binK .plain .add (t 3) (.int .i64 1)).bind fun v14 =>
        some ⟨.normal, put (put (put (put (put (put (put (put (put (put (put (put (put (put (put (put t 4 (t 3)) 5 v4) 6 v5) 7 v6) 8 v7) 11 v8) 12 v9) 13 (t 3)) 14 v10) 15 v11) 16 (t 3)) 17 q12.1) 18 v13) 9 (t 3)) 10 v14) 3 v14, q12.2.1, q12.2.2 + 3⟩))
    (some ⟨(.exit 0), put (put (put (put (put t 4 (t 3)) 5 v4) 6 v5) 7 v6) 8 v7, H, n + 5⟩)
noncomputable def S24 (C : Calling) (L : Body → Body) (t : Tm) (H : Hp) (n : Nat) : Option (Value × Hp × Nat) :=
  (vcells (t 0)).bind fun c2 =>
  let H1 := H.set (n) (some (.row c2 0 true))
  (L (S24L0 C L) (put (put (put t 1 (ptr (n) 0)) 2 (.bool false)) 3 (.int .i64 0)) H1 (n + 3)).bind fun (o3 : Out) =>
  let o15 := outOf 0 o3
  thenK o15
    ((fieldA 0 (o15.t 1)).bind fun v16 =>
     (ld false 1 v16 o15.H).bind fun v17 =>
     (lenV false v17).bind fun v18 =>
     (binK .plain .leq v18 (.int .i64 3000)).bind fun v19 =>
     some (v19, o15.H, o15.n + 5))
    (finE o15.e
       (some (o15.t 2, o15.H, o15.n)))
theorem s24 (C : Calling) (L : Body → Body) (t : Tm) (H : Hp) (n : Nat) : bodyK Try.prog C L Try.f24 t H n = S24 C L t H n := by kernel_rfl
theorem c24 (args : List Value) (H : Hp) (n : Nat) : Call Try.prog 24 args H n = S24 (Call Try.prog) Loop (argsT args) H n := (Call_body Try.func24 args H n).trans (s24 ..)
/-! 25: spec.l2Has -/
noncomputable def S25 (C : Calling) (L : Body → Body) (t : Tm) (H : Hp) (n : Nat) : Option (Value × Hp × Nat) :=
  (vcells (t 0)).bind fun c2 =>
  let H1 := H.set (n) (some (.row c2 0 true))
  (fieldA 0 (ptr (n) 0)).bind fun v3 =>
  (ld false 1 v3 H1).bind fun v4 =>
  (lenV false v4).bind fun v5 =>
  (binK .plain .sub v5 (.int .i64 1)).bind fun v6 =>
  (C 51 [t 1, .int .i64 0, v6] H1 (n + 9)).bind fun q7 =>
  some (q7.1, q7.2.1, q7.2.2)
theorem s25 (C : Calling) (L : Body → Body) (t : Tm) (H : Hp) (n : Nat) : bodyK Try.prog C L Try.f25 t H n = S25 C L t H n := by kernel_rfl
theorem c25 (args : List Value) (H : Hp) (n : Nat) : Call Try.prog 25 args H n = S25 (Call Try.prog) Loop (argsT args) H n := (Call_body Try.func25 args H n).trans (s25 ..)
/-! 26: spec.l3Write -/
noncomputable def S26L0 (C : Calling) (L : Body → Body) : Body := fun t H n =>
  (fieldA 0 (t 3)).bind fun v60 =>
  (ld false 1 v60 H).bind fun v61 =>
  (fieldA 4 (t 7)).bind fun v62 =>
  (ld false 1 v62 H).bind fun v63 =>
  (idxA 5 v61 v63).bind fun v64 =>
  (fieldA 0 v64).bind fun v65 =>
  (ld false 1 v65 H).bind fun v66 =>
  (binK .plain .eql v66 (.int .i64 5)).bind fun v67 =>
  let t69 : Tm := put (put (put (put (put (put (put (put (put t 83 v60) 84 v61) 85 v62) 86 v63) 87 v64) 88 v65) 89 v66) 90 v67) 91 v67
  (gsel v67 true
    ((lenV true (t69 2)).bind fun v70 =>
     (binK .plain .leq v70 (.int .i64 400)).bind fun v71 =>
     some (put (put (put t69 92 (t69 2)) 93 v70) 94 v71, H, n + 13))
    (some (put (put (put t69 92 (.tuple #[])) 93 (.tuple #[])) 94 (.tuple #[]), H, n + 13))
  ).bind fun (q68 : R3) =>
  (pickV (q68.1 91) (q68.1 94) (.bool false)).bind fun v72 =>
  csel v72
    ((fieldA 0 (q68.1 3)).bind fun v73 =>
     (ld false 1 v73 q68.2.1).bind fun v74 =>
     (fieldA 4 (q68.1 7)).bind fun v75 =>
     (ld false 1 v75 q68.2.1).bind fun v76 =>
     (idxA 5 v74 v76).bind fun v77 =>
     (ld true 5 v77 q68.2.1).bind fun v78 =>
     (st true 5 (q68.1 7) v78 q68.2.1).bind fun H79 =>
     (ld true 1 (q68.1 3) H79).bind fun v80 =>
     (fieldA 3 (q68.1 7)).bind fun v81 =>
     (ld false 1 v81 H79).bind fun v82 =>
     (binK .plain .add (q68.1 2) (.string ⟨#[32]⟩)).bind fun v83 =>
     (C 26 [v80, v82, v83] H79 (q68.2.2 + 14)).bind fun q84 =>
     some ⟨.normal, put (put (put (put (put (put (put (put (put (put (put (put (put (put q68.1 95 v72) 96 v73) 97 v74) 98 v75) 99 v76) 100 v77) 101 v78) 102 v80) 103 v81) 104 v82) 105 (q68.1 2)) 106 v83) 107 q84.1) 2 q84.1, q84.2.1, q84.2.2⟩)
    (some ⟨(.exit 1), put q68.1 95 v72, q68.2.1, q68.2.2⟩)
noncomputable def S26 (C : Calling) (L : Body → Body) (t : Tm) (H : Hp) (n : Nat) : Option (Value × Hp × Nat) :=
  (vcells (t 0)).bind fun c2 =>
  let H1 := H.set (n) (some (.row c2 0 true))
  (lenV true (t 2)).bind fun v3 =>
  (binK .plain .gtr v3 (.int .i64 400)).bind fun v4 =>
  csel v4
    (some (t 2, H1, n + 7))
    ((fieldA 0 (ptr (n) 0)).bind fun v5 =>
     (ld false 1 v5 H1).bind fun v6 =>
     (idxA 5 v6 (t 1)).bind fun v7 =>
     (ld true 5 v7 H1).bind fun v8 =>
     let H9 := H1.set (n + 10) (some (.row [.int .i64 0, .int .i64 0, .string ⟨#[]⟩, .int .i64 0, .int .i64 0] 0 true))
     (st true 5 (ptr (n + 10) 0) v8 H9).bind fun H10 =>
     (fieldA 0 (ptr (n + 10) 0)).bind fun v11 =>
     (ld false 1 v11 H10).bind fun v12 =>
     (binK .plain .eql v12 (.int .i64 1)).bind fun v13 =>
     csel v13
       ((binK .plain .add (t 2) (.string ⟨#[40, 41]⟩)).bind fun v14 =>
        some (v14, H10, n + 19))
       ((binK .plain .eql v12 (.int .i64 2)).bind fun v15 =>
        csel v15
          ((fieldA 1 (ptr (n + 10) 0)).bind fun v16 =>
           (ld false 1 v16 H10).bind fun v17 =>
           (binK .plain .eql v17 (.int .i64 1)).bind fun v18 =>
           csel v18
             ((binK .plain .add (t 2) (.string ⟨#[35, 116]⟩)).bind fun v19 =>
              some (v19, H10, n + 24))
             ((binK .plain .add (t 2) (.string ⟨#[35, 102]⟩)).bind fun v20 =>
              some (v20, H10, n + 24)))
          ((binK .plain .eql v12 (.int .i64 3)).bind fun v21 =>
           csel v21
             ((fieldA 1 (ptr (n + 10) 0)).bind fun v22 =>
              (ld false 1 v22 H10).bind fun v23 =>
              (C 52 [v23] H10 (n + 26)).bind fun q24 =>
              (binK .plain .add (t 2) q24.1).bind fun v25 =>
              some (v25, q24.2.1, q24.2.2))
             ((binK .plain .eql v12 (.int .i64 4)).bind fun v26 =>
              csel v26
                ((fieldA 2 (ptr (n + 10) 0)).bind fun v27 =>
                 (ld false 1 v27 H10).bind fun v28 =>
                 (binK .plain .add (t 2) v28).bind fun v29 =>
                 some (v29, H10, n + 27))
                ((binK .plain .eql v12 (.int .i64 6)).bind fun v30 =>
                 csel v30
                   ((binK .plain .add (t 2) (.string ⟨#[35, 102, 117, 110]⟩)).bind fun v31 =>
                    (fieldA 1 (ptr (n + 10) 0)).bind fun v32 =>
                    (ld false 1 v32 H10).bind fun v33 =>
                    (C 52 [v33] H10 (n + 31)).bind fun q34 =>
                    (binK .plain .add v31 q34.1).bind fun v35 =>
                    some (v35, q34.2.1, q34.2.2))
                   ((binK .plain .eql v12 (.int .i64 7)).bind fun v36 =>
                    csel v36
                      ((binK .plain .add (t 2) (.string ⟨#[35, 107, 111, 110, 116]⟩)).bind fun v37 =>
                       (fieldA 1 (ptr (n + 10) 0)).bind fun v38 =>
                       (ld false 1 v38 H10).bind fun v39 =>
                       (C 52 [v39] H10 (n + 33)).bind fun q40 =>
                       (binK .plain .add v37 q40.1).bind fun v41 =>
                       some (v41, q40.2.1, q40.2.2))
                      ((binK .plain .eql v12 (.int .i64 8)).bind fun v42 =>
                       csel v42
                         ((binK .plain .add (t 2) (.string ⟨#[35, 112, 114, 105, 109]⟩)).bind fun v43 =>
                          (fieldA 1 (ptr (n + 10) 0)).bind fun v44 =>
                          (ld false 1 v44 H10).bind fun v45 =>
                          (C 52 [v45] H10 (n + 35)).bind fun q46 =>
                          (binK .plain .add v43 q46.1).bind fun v47 =>
                          some (v47, q46.2.1, q46.2.2))
                         ((binK .plain .eql v12 (.int .i64 9)).bind fun v48 =>
                          csel v48
                            ((binK .plain .add (t 2) (.string ⟨#[35, 112, 105, 100]⟩)).bind fun v49 =>
                             (fieldA 1 (ptr (n + 10) 0)).bind fun v50 =>
                             (ld false 1 v50 H10).bind fun v51 =>
                             (C 52 [v51] H10 (n + 37)).bind fun q52 =>
                             (binK .plain .add v49 q52.1).bind fun v53 =>
                             some (v53, q52.2.1, q52.2.2))
                            ((ld true 1 (ptr (n) 0) H10).bind fun v54 =>
                             (fieldA 3 (ptr (n + 10) 0)).bind fun v55 =>
                             (ld false 1 v55 H10).bind fun v56 =>
                             (binK .plain .add (t 2) (.string ⟨#[40]⟩)).bind fun v57 =>
                             (C 26 [v54, v56, v57] H10 (n + 37)).bind fun q58 =>
                             (L (S26L0 C L) (put (put (put (put (put (put (put (put (put (put (put (put (put (put (put (put (put (put (put (put (put (put (put (put (put (put (put (put (put (put (put (put (put (put (put (put t 3 (ptr (n) 0)) 6 (.string ⟨#[]⟩)) 8 (t 2)) 9 v3) 10 v4) 12 v5) 13 v6) 14 (t 1)) 15 v7) 16 v8) 7 (ptr (n + 10) 0)) 17 v11) 18 v12) 20 v13) 19 v13) 24 v15) 23 v15) 33 v21) 32 v21) 40 v26) 39 v26) 46 v30) 45 v30) 54 v36) 53 v36) 62 v42) 61 v42) 70 v48) 69 v48) 77 v54) 78 v55) 79 v56) 80 (t 2)) 81 v57) 82 q58.1) 2 q58.1) q58.2.1 (q58.2.2)).bind fun (o59 : Out) =>
                             (fieldA 0 (o59.t 3)).bind fun v85 =>
                             (ld false 1 v85 o59.H).bind fun v86 =>
                             (fieldA 4 (o59.t 7)).bind fun v87 =>
                             (ld false 1 v87 o59.H).bind fun v88 =>
                             (idxA 5 v86 v88).bind fun v89 =>
                             (fieldA 0 v89).bind fun v90 =>
                             (ld false 1 v90 o59.H).bind fun v91 =>
                             (binK .plain .neq v91 (.int .i64 1)).bind fun v92 =>
                             let t94 : Tm := put (put (put (put (put (put (put (put o59.t 108 v85) 109 v86) 110 v87) 111 v88) 112 v89) 113 v90) 114 v91) 115 v92
                             (csel v92
                               ((ld true 1 (t94 3) o59.H).bind fun v95 =>
                                (fieldA 4 (t94 7)).bind fun v96 =>
                                (ld false 1 v96 o59.H).bind fun v97 =>
                                (binK .plain .add (t94 2) (.string ⟨#[32, 46, 32]⟩)).bind fun v98 =>
                                (C 26 [v95, v97, v98] o59.H (o59.n + 15)).bind fun q99 =>
                                some ⟨.normal, put (put (put (put (put (put (put t94 116 v95) 117 v96) 118 v97) 119 (t94 2)) 120 v98) 121 q99.1) 2 q99.1, q99.2.1, q99.2.2⟩)
                               (some ⟨.normal, t94, o59.H, o59.n + 8⟩)
                             ).bind fun (o93 : Out) =>
                             (binK .plain .add (o93.t 2) (.string ⟨#[41]⟩)).bind fun v100 =>
                             some (v100, o93.H, o93.n + 3))))))))))
theorem s26 (C : Calling) (L : Body → Body) (t : Tm) (H : Hp) (n : Nat) : bodyK Try.prog C L Try.f26 t H n = S26 C L t H n := by kernel_rfl
theorem c26 (args : List Value) (H : Hp) (n : Nat) : Call Try.prog 26 args H n = S26 (Call Try.prog) Loop (argsT args) H n := (Call_body Try.func26 args H n).trans (s26 ..)
/-! 27: laws.toNodeS -/
noncomputable def S27L0 (C : Calling) (L : Body → Body) : Body := fun t H n =>
  (lenV false (t 0)).bind fun v4 =>
  (binK .plain .lss (t 4) v4).bind fun v5 =>
  csel v5
    ((idxA 5 (t 0) (t 4)).bind fun v6 =>
     (ld true 5 v6 H).bind fun v7 =>
     (C 53 [v7] H (n + 13)).bind fun q8 =>
     (idxA 5 (t 3) (t 4)).bind fun v9 =>
     (st true 5 v9 q8.1 q8.2.1).bind fun H10 =>
     (binK .plain .add (t 4) (.int .i64 1)).bind fun v11 =>
     some ⟨.normal, put (put (put (put (put (put (put (put (put (put (put (put (put (put (put t 8 (t 4)) 9 (t 0)) 10 v4) 11 v5) 14 (t 3)) 15 (t 4)) 16 (t 0)) 17 (t 4)) 18 v6) 19 v7) 20 q8.1) 21 v9) 12 (t 4)) 13 v11) 4 v11, H10, q8.2.2 + 3⟩)
    (some ⟨(.exit 0), put (put (put (put t 8 (t 4)) 9 (t 0)) 10 v4) 11 v5, H, n + 4⟩)
noncomputable def S27 (C : Calling) (L : Body → Body) (t : Tm) (H : Hp) (n : Nat) : Option (Value × Hp × Nat) :=
  (lenV false (t 0)).bind fun v1 =>
  (mks (n + 3) 5 48 [.int .i64 0, .int .i64 0, .string ⟨#[]⟩, .int .i64 0, .int .i64 0] v1 v1 H).bind fun p2 =>
  (L (S27L0 C L) (put (put (put (put (put (put t 2 nilS) 5 (t 0)) 6 v1) 7 p2.1) 3 p2.1) 4 (.int .i64 0)) p2.2 (n + 6)).bind fun (o3 : Out) =>
  some (o3.t 3, o3.H, o3.n + 2)
theorem s27 (C : Calling) (L : Body → Body) (t : Tm) (H : Hp) (n : Nat) : bodyK Try.prog C L Try.f27 t H n = S27 C L t H n := by kernel_rfl
theorem c27 (args : List Value) (H : Hp) (n : Nat) : Call Try.prog 27 args H n = S27 (Call Try.prog) Loop (argsT args) H n := (Call_body Try.func27 args H n).trans (s27 ..)
/-! 28: impl.isNode -/
noncomputable def S28 (C : Calling) (L : Body → Body) (t : Tm) (H : Hp) (n : Nat) : Option (Value × Hp × Nat) :=
  (vcells (t 0)).bind fun c2 =>
  let H1 := H.set (n) (some (.row c2 0 true))
  (fieldA 0 (ptr (n) 0)).bind fun v3 =>
  (ld false 1 v3 H1).bind fun v4 =>
  (lenV false v4).bind fun v5 =>
  (binK .plain .sub v5 (.int .i64 1)).bind fun v6 =>
  (C 54 [t 1, .int .i64 0, v6] H1 (n + 9)).bind fun q7 =>
  some (q7.1, q7.2.1, q7.2.2)
theorem s28 (C : Calling) (L : Body → Body) (t : Tm) (H : Hp) (n : Nat) : bodyK Try.prog C L Try.f28 t H n = S28 C L t H n := by kernel_rfl
theorem c28 (args : List Value) (H : Hp) (n : Nat) : Call Try.prog 28 args H n = S28 (Call Try.prog) Loop (argsT args) H n := (Call_body Try.func28 args H n).trans (s28 ..)
/-! 29: impl.writing).value -/
noncomputable def S29 (C : Calling) (L : Body → Body) (t : Tm) (H : Hp) (n : Nat) : Option (Value × Hp × Nat) :=
  (nilchk (t 0)).bind fun v1 =>
  (fieldA 0 v1).bind fun v2 =>
  (fieldA 0 v2).bind fun v3 =>
  (ld false 1 v3 H).bind fun v4 =>
  (idxA 5 v4 (t 1)).bind fun v5 =>
  (ld true 5 v5 H).bind fun v6 =>
  let H7 := H.set (n + 8) (some (.row [.int .i64 0, .int .i64 0, .string ⟨#[]⟩, .int .i64 0, .int .i64 0] 0 true))
  (st true 5 (ptr (n + 8) 0) v6 H7).bind fun H8 =>
  (C 30 [t 0] H8 (n + 13)).bind fun q9 =>
  let t11 : Tm := put (put (put (put (put (put (put (put (put (put (put (put t 5 (t 0)) 6 v1) 7 v2) 8 v3) 9 v4) 10 (t 1)) 11 v5) 12 v6) 4 (ptr (n + 8) 0)) 26 (t 0)) 27 q9.1) 25 q9.1
  (csel q9.1
    (some ⟨.normal, t11, q9.2.1, q9.2.2⟩)
    ((fieldA 0 (ptr (n + 8) 0)).bind fun v12 =>
     (ld false 1 v12 q9.2.1).bind fun v13 =>
     (binK .plain .eql v13 (.int .i64 1)).bind fun v14 =>
     let t16 : Tm := put (put (put (put t11 29 v12) 30 v13) 31 v14) 32 v14
     (gsel v14 false
       ((fieldA 0 (ptr (n + 8) 0)).bind fun v17 =>
        (ld false 1 v17 q9.2.1).bind fun v18 =>
        (binK .plain .eql v18 (.int .i64 5)).bind fun v19 =>
        some (put (put (put t16 33 v17) 34 v18) 35 v19, q9.2.1, q9.2.2 + 9))
       (some (put (put (put t16 33 (.tuple #[])) 34 (.tuple #[])) 35 (.tuple #[]), q9.2.1, q9.2.2 + 9))
     ).bind fun (q15 : R3) =>
     (pickV (q15.1 32) (.bool true) (q15.1 35)).bind fun v20 =>
     let t22 : Tm := put (put q15.1 36 v20) 28 v20
     (csel v20
       ((C 55 [t22 0, .string ⟨#[40]⟩] q15.2.1 (q15.2.2 + 2)).bind fun q23 =>
        (C 56 [t22 0, t22 1] q23.2.1 (q23.2.2 + 3)).bind fun q24 =>
        (C 55 [t22 0, .string ⟨#[41]⟩] q24.2.1 (q24.2.2 + 2)).bind fun q25 =>
        some ⟨.normal, put (put (put (put (put (put (put t22 37 (t22 0)) 38 q23.1) 39 (t22 0)) 40 (t22 1)) 41 q24.1) 42 (t22 0)) 43 q25.1, q25.2.1, q25.2.2⟩)
       ((fieldA 0 (t22 4)).bind fun v26 =>
        (ld false 1 v26 q15.2.1).bind fun v27 =>
        (binK .plain .eql v27 (.int .i64 2)).bind fun v28 =>
        let t30 : Tm := put (put (put (put t22 45 v26) 46 v27) 47 v28) 48 v28
        (gsel v28 true
          ((fieldA 1 (t30 4)).bind fun v31 =>
           (ld false 1 v31 q15.2.1).bind fun v32 =>
           (binK .plain .eql v32 (.int .i64 1)).bind fun v33 =>
           some (put (put (put t30 49 v31) 50 v32) 51 v33, q15.2.1, q15.2.2 + 9))
          (some (put (put (put t30 49 (.tuple #[])) 50 (.tuple #[])) 51 (.tuple #[]), q15.2.1, q15.2.2 + 9))
        ).bind fun (q29 : R3) =>
        (pickV (q29.1 48) (q29.1 51) (.bool false)).bind fun v34 =>
        let t36 : Tm := put (put q29.1 52 v34) 44 v34
        (csel v34
          ((C 55 [t36 0, .string ⟨#[35, 116]⟩] q29.2.1 (q29.2.2 + 2)).bind fun q37 =>
           some ⟨.normal, put (put t36 53 (t36 0)) 54 q37.1, q37.2.1, q37.2.2⟩)
          ((fieldA 0 (t36 4)).bind fun v38 =>
           (ld false 1 v38 q29.2.1).bind fun v39 =>
           (binK .plain .eql v39 (.int .i64 2)).bind fun v40 =>
           let t42 : Tm := put (put (put (put t36 56 v38) 57 v39) 58 v40) 55 v40
           (csel v40
             ((C 55 [t42 0, .string ⟨#[35, 102]⟩] q29.2.1 (q29.2.2 + 6)).bind fun q43 =>
              some ⟨.normal, put (put t42 59 (t42 0)) 60 q43.1, q43.2.1, q43.2.2⟩)
             ((fieldA 0 (t42 4)).bind fun v44 =>
              (ld false 1 v44 q29.2.1).bind fun v45 =>
              (binK .plain .eql v45 (.int .i64 3)).bind fun v46 =>
              let t48 : Tm := put (put (put (put t42 62 v44) 63 v45) 64 v46) 61 v46
              (csel v46
                ((fieldA 1 (t48 4)).bind fun v49 =>
                 (ld false 1 v49 q29.2.1).bind fun v50 =>
                 (C 57 [v50] q29.2.1 (q29.2.2 + 13)).bind fun q51 =>
                 (C 55 [t48 0, q51.1] q51.2.1 (q51.2.2)).bind fun q52 =>
                 some ⟨.normal, put (put (put (put (put t48 65 (t48 0)) 66 v49) 67 v50) 68 q51.1) 69 q52.1, q52.2.1, q52.2.2⟩)
                ((fieldA 0 (t48 4)).bind fun v53 =>
                 (ld false 1 v53 q29.2.1).bind fun v54 =>
                 (binK .plain .eql v54 (.int .i64 4)).bind fun v55 =>
                 let t57 : Tm := put (put (put (put t48 71 v53) 72 v54) 73 v55) 70 v55
                 (csel v55
                   ((fieldA 2 (t57 4)).bind fun v58 =>
                    (ld false 1 v58 q29.2.1).bind fun v59 =>
                    (C 55 [t57 0, v59] q29.2.1 (q29.2.2 + 16)).bind fun q60 =>
                    some ⟨.normal, put (put (put (put t57 74 (t57 0)) 75 v58) 76 v59) 77 q60.1, q60.2.1, q60.2.2⟩)
                   ((bsl (q29.2.2 + 13) 1 4 [.string ⟨#[]⟩] [(0, 1, .string ⟨#[35, 102, 117, 110]⟩), (1, 1, .string ⟨#[35, 107, 111, 110, 116]⟩), (2, 1, .string ⟨#[35, 112, 114, 105, 109]⟩), (3, 1, .string ⟨#[35, 112, 105, 100]⟩)] q29.2.1).bind fun p61 =>
                    (fieldA 0 (t57 4)).bind fun v62 =>
                    (ld false 1 v62 p61.2).bind fun v63 =>
                    (binK .plain .sub v63 (.int .i64 6)).bind fun v64 =>
                    (idxA 1 p61.1 v64).bind fun v65 =>
                    (ld false 1 v65 p61.2).bind fun v66 =>
                    (fieldA 1 (t57 4)).bind fun v67 =>
                    (ld false 1 v67 p61.2).bind fun v68 =>
                    (C 57 [v68] p61.2 (q29.2.2 + 24)).bind fun q69 =>
                    ask (ld false 1 v65 q69.2.1 = some v66) <|
                    ask (ld false 1 v62 q69.2.1 = some v63) <|
                    (binK .plain .add v66 q69.1).bind fun v70 =>
                    (C 55 [t57 0, v70] q69.2.1 (q69.2.2)).bind fun q71 =>
                    some ⟨.normal, put (put (put (put (put (put (put (put (put (put (put (put t57 13 (t57 0)) 14 p61.1) 15 v62) 16 v63) 17 v64) 18 v65) 19 v66) 20 v67) 21 v68) 22 q69.1) 23 v70) 24 q71.1, q71.2.1, q71.2.2⟩)
                 ).bind fun (o56 : Out) =>
                 some ⟨.normal, o56.t, o56.H, o56.n⟩)
              ).bind fun (o47 : Out) =>
              some ⟨.normal, o47.t, o47.H, o47.n⟩)
           ).bind fun (o41 : Out) =>
           some ⟨.normal, o41.t, o41.H, o41.n⟩)
        ).bind fun (o35 : Out) =>
        some ⟨.normal, o35.t, o35.H, o35.n⟩)
     ).bind fun (o21 : Out) =>
     some ⟨.normal, o21.t, o21.H, o21.n⟩)
  ).bind fun (o10 : Out) =>
  some (.tuple ⟨[]⟩, o10.H, o10.n)
theorem s29 (C : Calling) (L : Body → Body) (t : Tm) (H : Hp) (n : Nat) : bodyK Try.prog C L Try.f29 t H n = S29 C L t H n := by kernel_rfl
theorem c29 (args : List Value) (H : Hp) (n : Nat) : Call Try.prog 29 args H n = S29 (Call Try.prog) Loop (argsT args) H n := (Call_body Try.func29 args H n).trans (s29 ..)
/-! 30: impl.writing).full -/
noncomputable def S30 (C : Calling) (L : Body → Body) (t : Tm) (H : Hp) (n : Nat) : Option (Value × Hp × Nat) :=
  (nilchk (t 0)).bind fun v1 =>
  (fieldA 1 v1).bind fun v2 =>
  (ld false 1 v2 H).bind fun v3 =>
  (lenV false v3).bind fun v4 =>
  (binK .plain .gtr v4 (.int .i64 400)).bind fun v5 =>
  some (v5, H, n + 8)
theorem s30 (C : Calling) (L : Body → Body) (t : Tm) (H : Hp) (n : Nat) : bodyK Try.prog C L Try.f30 t H n = S30 C L t H n := by kernel_rfl
theorem c30 (args : List Value) (H : Hp) (n : Nat) : Call Try.prog 30 args H n = S30 (Call Try.prog) Loop (argsT args) H n := (Call_body Try.func30 args H n).trans (s30 ..)
/-! 31: laws.eqNodeS -/
noncomputable def S31L0 (C : Calling) (L : Body → Body) : Body := fun t H n =>
  (lenV false (t 0)).bind fun v5 =>
  (binK .plain .lss (t 5) v5).bind fun v6 =>
  csel v6
    ((idxA 5 (t 0) (t 5)).bind fun v7 =>
     (ld true 5 v7 H).bind fun v8 =>
     (idxA 5 (t 1) (t 5)).bind fun v9 =>
     (ld true 5 v9 H).bind fun v10 =>
     (C 58 [v8, v10] H (n + 14)).bind fun q11 =>
     (un .not q11.1).bind fun v12 =>
     csel v12
       (some ⟨.ret, put (put (put (put (put (put (put (put (put (put (put (put (put (put (put t 11 (t 5)) 12 (t 0)) 13 v5) 14 v6) 17 (t 0)) 18 (t 5)) 19 v7) 20 v8) 21 (t 1)) 22 (t 5)) 23 v9) 24 v10) 25 q11.1) 26 v12) 4 (.bool false), q11.2.1, q11.2.2 + 1⟩)
       ((binK .plain .add (t 5) (.int .i64 1)).bind fun v13 =>
        some ⟨.normal, put (put (put (put (put (put (put (put (put (put (put (put (put (put (put (put (put t 11 (t 5)) 12 (t 0)) 13 v5) 14 v6) 17 (t 0)) 18 (t 5)) 19 v7) 20 v8) 21 (t 1)) 22 (t 5)) 23 v9) 24 v10) 25 q11.1) 26 v12) 15 (t 5)) 16 v13) 5 v13, q11.2.1, q11.2.2 + 3⟩))
    (some ⟨(.exit 0), put (put (put (put t 11 (t 5)) 12 (t 0)) 13 v5) 14 v6, H, n + 4⟩)
noncomputable def S31 (C : Calling) (L : Body → Body) (t : Tm) (H : Hp) (n : Nat) : Option (Value × Hp × Nat) :=
  (lenV false (t 0)).bind fun v1 =>
  (lenV false (t 1)).bind fun v2 =>
  (binK .plain .neq v1 v2).bind fun v3 =>
  csel v3
    (some (.bool false, H, n + 7))
    ((L (S31L0 C L) (put (put (put (put (put (put (put t 4 (.bool false)) 6 (t 0)) 7 v1) 8 (t 1)) 9 v2) 10 v3) 5 (.int .i64 0)) H (n + 7)).bind fun (o4 : Out) =>
     let o14 := outOf 0 o4
     thenK o14
       (some (.bool true, o14.H, o14.n + 1))
       (finE o14.e
          (some (o14.t 4, o14.H, o14.n))))
theorem s31 (C : Calling) (L : Body → Body) (t : Tm) (H : Hp) (n : Nat) : bodyK Try.prog C L Try.f31 t H n = S31 C L t H n := by kernel_rfl
theorem c31 (args : List Value) (H : Hp) (n : Nat) : Call Try.prog 31 args H n = S31 (Call Try.prog) Loop (argsT args) H n := (Call_body Try.func31 args H n).trans (s31 ..)
/-! 48: impl.nodeOk -/
noncomputable def S48 (C : Calling) (L : Body → Body) (t : Tm) (H : Hp) (n : Nat) : Option (Value × Hp × Nat) :=
  (vcells (t 0)).bind fun c2 =>
  let H1 := H.set (n) (some (.row c2 0 true))
  (fieldA 2 (ptr (n) 0)).bind fun v3 =>
  (ld false 1 v3 H1).bind fun v4 =>
  (binK .plain .eql v4 (.string ⟨#[]⟩)).bind fun v5 =>
  (fieldA 3 (ptr (n) 0)).bind fun v6 =>
  (ld false 1 v6 H1).bind fun v7 =>
  (binK .plain .eql v7 (.int .i64 0)).bind fun v8 =>
  (fieldA 4 (ptr (n) 0)).bind fun v9 =>
  (ld false 1 v9 H1).bind fun v10 =>
  (binK .plain .eql v10 (.int .i64 0)).bind fun v11 =>
  (fieldA 0 (ptr (n) 0)).bind fun v12 =>
  (ld false 1 v12 H1).bind fun v13 =>
  (binK .plain .eql v13 (.int .i64 1)).bind fun v14 =>
  let t16 : Tm := put (put (put (put (put (put (put (put (put (put (put (put (put (put (put (put (put (put (put (put t 2 (ptr (n) 0)) 4 (.bool false)) 10 v3) 11 v4) 12 v5) 5 (.int .i64 0)) 6 (.int .i64 0)) 7 v5) 13 v6) 14 v7) 15 v8) 16 v9) 17 v10) 18 v11) 8 v8) 9 v11) 19 v12) 20 v13) 22 v14) 21 v14
  (csel v14
    (some ⟨.normal, t16, H1, n + 20⟩)
    ((binK .plain .eql v13 (.int .i64 2)).bind fun v17 =>
     let t19 : Tm := put (put t16 24 v17) 23 v17
     (csel v17
       (some ⟨.normal, put t19 6 (.int .i64 1), H1, n + 23⟩)
       ((binK .plain .eql v13 (.int .i64 3)).bind fun v20 =>
        let t22 : Tm := put (put t19 26 v20) 25 v20
        (csel v20
          (some ⟨.normal, put (put t22 5 (.int .i64 (-1000000000))) 6 (.int .i64 1000000000), H1, n + 26⟩)
          ((binK .plain .eql v13 (.int .i64 4)).bind fun v23 =>
           let t25 : Tm := put (put t22 28 v23) 27 v23
           (csel v23
             ((fieldA 2 (ptr (n) 0)).bind fun v26 =>
              (ld false 1 v26 H1).bind fun v27 =>
              (C 72 [v27] H1 (n + 30)).bind fun q28 =>
              some ⟨.normal, put (put (put (put t25 29 v26) 30 v27) 31 q28.1) 7 q28.1, q28.2.1, q28.2.2⟩)
             ((binK .plain .eql v13 (.int .i64 5)).bind fun v29 =>
              let t31 : Tm := put (put t25 33 v29) 32 v29
              (csel v29
                ((fieldA 3 (ptr (n) 0)).bind fun v32 =>
                 (ld false 1 v32 H1).bind fun v33 =>
                 (binK .plain .sub (t31 1) (.int .i64 1)).bind fun v34 =>
                 (C 54 [v33, .int .i64 0, v34] H1 (n + 40)).bind fun q35 =>
                 (fieldA 4 (ptr (n) 0)).bind fun v36 =>
                 (ld false 1 v36 q35.2.1).bind fun v37 =>
                 ask (ld false 1 v36 H1 = some v37) <|
                 (binK .plain .sub (t31 1) (.int .i64 1)).bind fun v38 =>
                 (C 54 [v37, .int .i64 0, v38] q35.2.1 (q35.2.2)).bind fun q39 =>
                 some ⟨.normal, put (put (put (put (put (put (put (put (put (put (put (put t31 34 v32) 35 v33) 36 (t31 1)) 37 v34) 38 q35.1) 39 v36) 40 v37) 41 (t31 1)) 42 v38) 43 q39.1) 8 q35.1) 9 q39.1, q39.2.1, q39.2.2⟩)
                ((binK .plain .eql v13 (.int .i64 6)).bind fun v40 =>
                 let t42 : Tm := put (put t31 45 v40) 44 v40
                 (csel v40
                   ((fieldA 3 (ptr (n) 0)).bind fun v43 =>
                    (ld false 1 v43 H1).bind fun v44 =>
                    (binK .plain .sub (t42 1) (.int .i64 1)).bind fun v45 =>
                    (C 54 [v44, .int .i64 0, v45] H1 (n + 37)).bind fun q46 =>
                    some ⟨.normal, put (put (put (put (put (put (put t42 46 v43) 47 v44) 48 (t42 1)) 49 v45) 50 q46.1) 6 (.int .i64 1000000000)) 8 q46.1, q46.2.1, q46.2.2⟩)
                   ((binK .plain .eql v13 (.int .i64 7)).bind fun v47 =>
                    let t49 : Tm := put (put t42 52 v47) 51 v47
                    (csel v47
                      ((fieldA 3 (ptr (n) 0)).bind fun v50 =>
                       (ld false 1 v50 H1).bind fun v51 =>
                       (binK .plain .sub (t49 1) (.int .i64 1)).bind fun v52 =>
                       (C 54 [v51, .int .i64 0, v52] H1 (n + 38)).bind fun q53 =>
                       some ⟨.normal, put (put (put (put (put (put t49 53 v50) 54 v51) 55 (t49 1)) 56 v52) 57 q53.1) 8 q53.1, q53.2.1, q53.2.2⟩)
                      ((binK .plain .eql v13 (.int .i64 8)).bind fun v54 =>
                       let t56 : Tm := put (put t49 59 v54) 58 v54
                       (csel v54
                         (some ⟨.normal, put t56 6 (.int .i64 99), H1, n + 35⟩)
                         ((binK .plain .eql v13 (.int .i64 9)).bind fun v57 =>
                          csel v57
                            (some ⟨.normal, put (put (put t56 61 v57) 60 v57) 6 (.int .i64 1000000000), H1, n + 37⟩)
                            (some ⟨.ret, put (put (put t56 61 v57) 60 v57) 4 (.bool false), H1, n + 37⟩))
                       ).bind fun (o55 : Out) =>
                       some o55)
                    ).bind fun (o48 : Out) =>
                    some o48)
                 ).bind fun (o41 : Out) =>
                 some o41)
              ).bind fun (o30 : Out) =>
              some o30)
           ).bind fun (o24 : Out) =>
           some o24)
        ).bind fun (o21 : Out) =>
        some o21)
     ).bind fun (o18 : Out) =>
     some o18)
  ).bind fun (o15 : Out) =>
  let o58 := outOf 0 o15
  thenK o58
    ((fieldA 1 (o58.t 2)).bind fun v59 =>
     (ld false 1 v59 o58.H).bind fun v60 =>
     (C 54 [v60, o58.t 5, o58.t 6] o58.H (o58.n + 15)).bind fun q61 =>
     (pickV q61.1 (gsel q61.1 true (o58.t 7) (.tuple #[])) (.bool false)).bind fun v62 =>
     (pickV v62 (gsel v62 true (o58.t 8) (.tuple #[])) (.bool false)).bind fun v63 =>
     (pickV v63 (gsel v63 true (o58.t 9) (.tuple #[])) (.bool false)).bind fun v64 =>
     some (v64, q61.2.1, q61.2.2))
    (finE o58.e
       (some (o58.t 4, o58.H, o58.n)))
theorem s48 (C : Calling) (L : Body → Body) (t : Tm) (H : Hp) (n : Nat) : bodyK Try.prog C L Try.f48 t H n = S48 C L t H n := by kernel_rfl
theorem c48 (args : List Value) (H : Hp) (n : Nat) : Call Try.prog 48 args H n = S48 (Call Try.prog) Loop (argsT args) H n := (Call_body Try.func48 args H n).trans (s48 ..)
/-! 49: laws.szNode -/
noncomputable def S49 (C : Calling) (L : Body → Body) (t : Tm) (H : Hp) (n : Nat) : Option (Value × Hp × Nat) :=
  (vcells (t 0)).bind fun c2 =>
  let H1 := H.set (n) (some (.row c2 0 true))
  (fieldA 2 (ptr (n) 0)).bind fun v3 =>
  (ld false 1 v3 H1).bind fun v4 =>
  (lenV true v4).bind fun v5 =>
  (binK .plain .sub (t 1) v5).bind fun v6 =>
  (binK .plain .lss v6 (.int .i64 0)).bind fun v7 =>
  csel v7
    (some (.int .i64 (-1), H1, n + 11))
    (some (v6, H1, n + 12))
theorem s49 (C : Calling) (L : Body → Body) (t : Tm) (H : Hp) (n : Nat) : bodyK Try.prog C L Try.f49 t H n = S49 C L t H n := by kernel_rfl
theorem c49 (args : List Value) (H : Hp) (n : Nat) : Call Try.prog 49 args H n = S49 (Call Try.prog) Loop (argsT args) H n := (Call_body Try.func49 args H n).trans (s49 ..)
/-! 50: spec.l2Node -/
noncomputable def S50 (C : Calling) (L : Body → Body) (t : Tm) (H : Hp) (n : Nat) : Option (Value × Hp × Nat) :=
  (vcells (t 0)).bind fun c2 =>
  let H1 := H.set (n) (some (.row c2 0 true))
  (fieldA 3 (ptr (n) 0)).bind fun v3 =>
  (ld false 1 v3 H1).bind fun v4 =>
  (binK .plain .sub (t 1) (.int .i64 1)).bind fun v5 =>
  (C 51 [v4, .int .i64 0, v5] H1 (n + 8)).bind fun q6 =>
  (fieldA 4 (ptr (n) 0)).bind fun v7 =>
  (ld false 1 v7 q6.2.1).bind fun v8 =>
  (binK .plain .sub (t 1) (.int .i64 1)).bind fun v9 =>
  (C 51 [v8, .int .i64 0, v9] q6.2.1 (q6.2.2 + 6)).bind fun q10 =>
  (fieldA 0 (ptr (n) 0)).bind fun v11 =>
  (ld false 1 v11 q10.2.1).bind fun v12 =>
  (binK .plain .eql v12 (.int .i64 1)).bind fun v13 =>
  csel v13
    ((ld true 5 (ptr (n) 0) q10.2.1).bind fun v14 =>
     (bld [.int .i64 0, .int .i64 0, .string ⟨#[]⟩, .int .i64 0, .int .i64 0] [(0, 1, .int .i64 1)]).bind fun v15 =>
     (binK (.agg [(0, (.int .i64)), (1, (.int .i64)), (2, .string), (3, (.int .i64)), (4, (.int .i64))]) .eql v14 v15).bind fun v16 =>
     some (v16, q10.2.1, q10.2.2 + 8))
    ((binK .plain .eql v12 (.int .i64 2)).bind fun v17 =>
     csel v17
       ((fieldA 1 (ptr (n) 0)).bind fun v18 =>
        (ld false 1 v18 q10.2.1).bind fun v19 =>
        (C 51 [v19, .int .i64 0, .int .i64 1] q10.2.1 (q10.2.2 + 17)).bind fun q20 =>
        let t22 : Tm := put (put (put (put (put (put (put (put (put (put (put (put (put (put (put (put (put (put (put (put (put (put (put (put t 2 (ptr (n) 0)) 4 (.bool false)) 7 v3) 8 v4) 9 (t 1)) 10 v5) 11 q6.1) 5 q6.1) 12 v7) 13 v8) 14 (t 1)) 15 v9) 16 q10.1) 6 q10.1) 17 v11) 18 v12) 20 v13) 19 v13) 25 v17) 24 v17) 26 v18) 27 v19) 28 q20.1) 29 q20.1
        (gsel q20.1 true
          ((ld true 5 (ptr (n) 0) q20.2.1).bind fun v23 =>
           (fieldA 1 (ptr (n) 0)).bind fun v24 =>
           (ld false 1 v24 q20.2.1).bind fun v25 =>
           (bld [.int .i64 0, .int .i64 0, .string ⟨#[]⟩, .int .i64 0, .int .i64 0] [(0, 1, .int .i64 2), (1, 1, v25)]).bind fun v26 =>
           (binK (.agg [(0, (.int .i64)), (1, (.int .i64)), (2, .string), (3, (.int .i64)), (4, (.int .i64))]) .eql v23 v26).bind fun v27 =>
           some (put (put (put (put (put t22 30 v23) 31 v24) 32 v25) 33 v26) 34 v27, q20.2.1, q20.2.2))
          (some (put (put (put (put (put t22 30 (.tuple #[])) 31 (.tuple #[])) 32 (.tuple #[])) 33 (.tuple #[])) 34 (.tuple #[]), q20.2.1, q20.2.2))
        ).bind fun (q21 : R3) =>
        (pickV (q21.1 29) (q21.1 34) (.bool false)).bind fun v28 =>
        some (v28, q21.2.1, q21.2.2))
       ((binK .plain .eql v12 (.int .i64 3)).bind fun v29 =>
        csel v29
          ((fieldA 1 (ptr (n) 0)).bind fun v30 =>
           (ld false 1 v30 q10.2.1).bind fun v31 =>
           (C 51 [v31, .int .i64 (-1000000000), .int .i64 1000000000] q10.2.1 (q10.2.2 + 19)).bind fun q32 =>
           let t34 : Tm := put (put (put (put (put (put (put (put (put (put (put (put (put (put (put (put (put (put (put (put (put (put (put (put (put (put t 2 (ptr (n) 0)) 4 (.bool false)) 7 v3) 8 v4) 9 (t 1)) 10 v5) 11 q6.1) 5 q6.1) 12 v7) 13 v8) 14 (t 1)) 15 v9) 16 q10.1) 6 q10.1) 17 v11) 18 v12) 20 v13) 19 v13) 25 v17) 24 v17) 37 v29) 36 v29) 38 v30) 39 v31) 40 q32.1) 41 q32.1
           (gsel q32.1 true
             ((ld true 5 (ptr (n) 0) q32.2.1).bind fun v35 =>
              (fieldA 1 (ptr (n) 0)).bind fun v36 =>
              (ld false 1 v36 q32.2.1).bind fun v37 =>
              (bld [.int .i64 0, .int .i64 0, .string ⟨#[]⟩, .int .i64 0, .int .i64 0] [(0, 1, .int .i64 3), (1, 1, v37)]).bind fun v38 =>
              (binK (.agg [(0, (.int .i64)), (1, (.int .i64)), (2, .string), (3, (.int .i64)), (4, (.int .i64))]) .eql v35 v38).bind fun v39 =>
              some (put (put (put (put (put t34 42 v35) 43 v36) 44 v37) 45 v38) 46 v39, q32.2.1, q32.2.2))
             (some (put (put (put (put (put t34 42 (.tuple #[])) 43 (.tuple #[])) 44 (.tuple #[])) 45 (.tuple #[])) 46 (.tuple #[]), q32.2.1, q32.2.2))
           ).bind fun (q33 : R3) =>
           (pickV (q33.1 41) (q33.1 46) (.bool false)).bind fun v40 =>
           some (v40, q33.2.1, q33.2.2))
          ((binK .plain .eql v12 (.int .i64 4)).bind fun v41 =>
           csel v41
             ((fieldA 2 (ptr (n) 0)).bind fun v42 =>
              (ld false 1 v42 q10.2.1).bind fun v43 =>
              (C 73 [v43] q10.2.1 (q10.2.2 + 21)).bind fun q44 =>
              let t46 : Tm := put (put (put (put (put (put (put (put (put (put (put (put (put (put (put (put (put (put (put (put (put (put (put (put (put (put (put (put t 2 (ptr (n) 0)) 4 (.bool false)) 7 v3) 8 v4) 9 (t 1)) 10 v5) 11 q6.1) 5 q6.1) 12 v7) 13 v8) 14 (t 1)) 15 v9) 16 q10.1) 6 q10.1) 17 v11) 18 v12) 20 v13) 19 v13) 25 v17) 24 v17) 37 v29) 36 v29) 49 v41) 48 v41) 50 v42) 51 v43) 52 q44.1) 53 q44.1
              (gsel q44.1 true
                ((ld true 5 (ptr (n) 0) q44.2.1).bind fun v47 =>
                 (fieldA 2 (ptr (n) 0)).bind fun v48 =>
                 (ld false 1 v48 q44.2.1).bind fun v49 =>
                 (bld [.int .i64 0, .int .i64 0, .string ⟨#[]⟩, .int .i64 0, .int .i64 0] [(0, 1, .int .i64 4), (2, 1, v49)]).bind fun v50 =>
                 (binK (.agg [(0, (.int .i64)), (1, (.int .i64)), (2, .string), (3, (.int .i64)), (4, (.int .i64))]) .eql v47 v50).bind fun v51 =>
                 some (put (put (put (put (put t46 54 v47) 55 v48) 56 v49) 57 v50) 58 v51, q44.2.1, q44.2.2))
                (some (put (put (put (put (put t46 54 (.tuple #[])) 55 (.tuple #[])) 56 (.tuple #[])) 57 (.tuple #[])) 58 (.tuple #[]), q44.2.1, q44.2.2))
              ).bind fun (q45 : R3) =>
              (pickV (q45.1 53) (q45.1 58) (.bool false)).bind fun v52 =>
              some (v52, q45.2.1, q45.2.2))
             ((binK .plain .eql v12 (.int .i64 5)).bind fun v53 =>
              csel v53
                ((pickV q6.1 (gsel q6.1 true q10.1 (.tuple #[])) (.bool false)).bind fun v54 =>
                 let t56 : Tm := put (put (put (put (put (put (put (put (put (put (put (put (put (put (put (put (put (put (put (put (put (put (put (put (put (put (put (put (put (put (put t 2 (ptr (n) 0)) 4 (.bool false)) 7 v3) 8 v4) 9 (t 1)) 10 v5) 11 q6.1) 5 q6.1) 12 v7) 13 v8) 14 (t 1)) 15 v9) 16 q10.1) 6 q10.1) 17 v11) 18 v12) 20 v13) 19 v13) 25 v17) 24 v17) 37 v29) 36 v29) 49 v41) 48 v41) 61 v53) 60 v53) 62 q6.1) 63 q6.1) 64 (gsel q6.1 true q10.1 (.tuple #[]))) 65 v54) 66 v54
                 (gsel v54 true
                   ((fieldA 1 (ptr (n) 0)).bind fun v57 =>
                    (ld false 1 v57 q10.2.1).bind fun v58 =>
                    (binK .plain .eql v58 (.int .i64 0)).bind fun v59 =>
                    some (put (put (put t56 67 v57) 68 v58) 69 v59, q10.2.1, q10.2.2 + 27))
                   (some (put (put (put t56 67 (.tuple #[])) 68 (.tuple #[])) 69 (.tuple #[]), q10.2.1, q10.2.2 + 27))
                 ).bind fun (q55 : R3) =>
                 (pickV (q55.1 66) (q55.1 69) (.bool false)).bind fun v60 =>
                 let t62 : Tm := put (put q55.1 70 v60) 71 v60
                 (gsel v60 true
                   ((fieldA 2 (t62 2)).bind fun v63 =>
                    (ld false 1 v63 q55.2.1).bind fun v64 =>
                    (binK .plain .eql v64 (.string ⟨#[]⟩)).bind fun v65 =>
                    some (put (put (put t62 72 v63) 73 v64) 74 v65, q55.2.1, q55.2.2))
                   (some (put (put (put t62 72 (.tuple #[])) 73 (.tuple #[])) 74 (.tuple #[]), q55.2.1, q55.2.2))
                 ).bind fun (q61 : R3) =>
                 (pickV (q61.1 71) (q61.1 74) (.bool false)).bind fun v66 =>
                 some (v66, q61.2.1, q61.2.2))
                ((binK .plain .eql v12 (.int .i64 6)).bind fun v67 =>
                 csel v67
                   (let t69 : Tm := put (put (put (put (put (put (put (put (put (put (put (put (put (put (put (put (put (put (put (put (put (put (put (put (put (put (put (put (put (put t 2 (ptr (n) 0)) 4 (.bool false)) 7 v3) 8 v4) 9 (t 1)) 10 v5) 11 q6.1) 5 q6.1) 12 v7) 13 v8) 14 (t 1)) 15 v9) 16 q10.1) 6 q10.1) 17 v11) 18 v12) 20 v13) 19 v13) 25 v17) 24 v17) 37 v29) 36 v29) 49 v41) 48 v41) 61 v53) 60 v53) 77 v67) 76 v67) 78 q6.1) 79 q6.1
                    (gsel q6.1 true
                      ((fieldA 1 (ptr (n) 0)).bind fun v70 =>
                       (ld false 1 v70 q10.2.1).bind fun v71 =>
                       (C 51 [v71, .int .i64 0, .int .i64 1000000000] q10.2.1 (q10.2.2 + 31)).bind fun q72 =>
                       some (put (put (put t69 80 v70) 81 v71) 82 q72.1, q72.2.1, q72.2.2))
                      (some (put (put (put t69 80 (.tuple #[])) 81 (.tuple #[])) 82 (.tuple #[]), q10.2.1, q10.2.2 + 31))
                    ).bind fun (q68 : R3) =>
                    (pickV (q68.1 79) (q68.1 82) (.bool false)).bind fun v73 =>
                    let t75 : Tm := put (put q68.1 83 v73) 84 v73
                    (gsel v73 true
                      ((fieldA 4 (t75 2)).bind fun v76 =>
                       (ld false 1 v76 q68.2.1).bind fun v77 =>
                       (binK .plain .eql v77 (.int .i64 0)).bind fun v78 =>
                       some (put (put (put t75 85 v76) 86 v77) 87 v78, q68.2.1, q68.2.2))
                      (some (put (put (put t75 85 (.tuple #[])) 86 (.tuple #[])) 87 (.tuple #[]), q68.2.1, q68.2.2))
                    ).bind fun (q74 : R3) =>
                    (pickV (q74.1 84) (q74.1 87) (.bool false)).bind fun v79 =>
                    let t81 : Tm := put (put q74.1 88 v79) 89 v79
                    (gsel v79 true
                      ((fieldA 2 (t81 2)).bind fun v82 =>
                       (ld false 1 v82 q74.2.1).bind fun v83 =>
                       (binK .plain .eql v83 (.string ⟨#[]⟩)).bind fun v84 =>
                       some (put (put (put t81 90 v82) 91 v83) 92 v84, q74.2.1, q74.2.2))
                      (some (put (put (put t81 90 (.tuple #[])) 91 (.tuple #[])) 92 (.tuple #[]), q74.2.1, q74.2.2))
                    ).bind fun (q80 : R3) =>
                    (pickV (q80.1 89) (q80.1 92) (.bool false)).bind fun v85 =>
                    some (v85, q80.2.1, q80.2.2))
                   ((binK .plain .eql v12 (.int .i64 7)).bind fun v86 =>
                    csel v86
                      (let t88 : Tm := put (put (put (put (put (put (put (put (put (put (put (put (put (put (put (put (put (put (put (put (put (put (put (put (put (put (put (put (put (put (put (put t 2 (ptr (n) 0)) 4 (.bool false)) 7 v3) 8 v4) 9 (t 1)) 10 v5) 11 q6.1) 5 q6.1) 12 v7) 13 v8) 14 (t 1)) 15 v9) 16 q10.1) 6 q10.1) 17 v11) 18 v12) 20 v13) 19 v13) 25 v17) 24 v17) 37 v29) 36 v29) 49 v41) 48 v41) 61 v53) 60 v53) 77 v67) 76 v67) 95 v86) 94 v86) 96 q6.1) 97 q6.1
                       (gsel q6.1 true
                         ((fieldA 1 (ptr (n) 0)).bind fun v89 =>
                          (ld false 1 v89 q10.2.1).bind fun v90 =>
                          (binK .plain .eql v90 (.int .i64 0)).bind fun v91 =>
                          some (put (put (put t88 98 v89) 99 v90) 100 v91, q10.2.1, q10.2.2 + 33))
                         (some (put (put (put t88 98 (.tuple #[])) 99 (.tuple #[])) 100 (.tuple #[]), q10.2.1, q10.2.2 + 33))
                       ).bind fun (q87 : R3) =>
                       (pickV (q87.1 97) (q87.1 100) (.bool false)).bind fun v92 =>
                       let t94 : Tm := put (put q87.1 101 v92) 102 v92
                       (gsel v92 true
                         ((fieldA 4 (t94 2)).bind fun v95 =>
                          (ld false 1 v95 q87.2.1).bind fun v96 =>
                          (binK .plain .eql v96 (.int .i64 0)).bind fun v97 =>
                          some (put (put (put t94 103 v95) 104 v96) 105 v97, q87.2.1, q87.2.2))
                         (some (put (put (put t94 103 (.tuple #[])) 104 (.tuple #[])) 105 (.tuple #[]), q87.2.1, q87.2.2))
                       ).bind fun (q93 : R3) =>
                       (pickV (q93.1 102) (q93.1 105) (.bool false)).bind fun v98 =>
                       let t100 : Tm := put (put q93.1 106 v98) 107 v98
                       (gsel v98 true
                         ((fieldA 2 (t100 2)).bind fun v101 =>
                          (ld false 1 v101 q93.2.1).bind fun v102 =>
                          (binK .plain .eql v102 (.string ⟨#[]⟩)).bind fun v103 =>
                          some (put (put (put t100 108 v101) 109 v102) 110 v103, q93.2.1, q93.2.2))
                         (some (put (put (put t100 108 (.tuple #[])) 109 (.tuple #[])) 110 (.tuple #[]), q93.2.1, q93.2.2))
                       ).bind fun (q99 : R3) =>
                       (pickV (q99.1 107) (q99.1 110) (.bool false)).bind fun v104 =>
                       some (v104, q99.2.1, q99.2.2))
                      ((binK .plain .eql v12 (.int .i64 8)).bind fun v105 =>
                       csel v105
                         ((fieldA 1 (ptr (n) 0)).bind fun v106 =>
                          (ld false 1 v106 q10.2.1).bind fun v107 =>
                          (C 51 [v107, .int .i64 0, .int .i64 99] q10.2.1 (q10.2.2 + 29)).bind fun q108 =>
                          let t110 : Tm := put (put (put (put (put (put (put (put (put (put (put (put (put (put (put (put (put (put (put (put (put (put (put (put (put (put (put (put (put (put (put (put (put (put (put (put t 2 (ptr (n) 0)) 4 (.bool false)) 7 v3) 8 v4) 9 (t 1)) 10 v5) 11 q6.1) 5 q6.1) 12 v7) 13 v8) 14 (t 1)) 15 v9) 16 q10.1) 6 q10.1) 17 v11) 18 v12) 20 v13) 19 v13) 25 v17) 24 v17) 37 v29) 36 v29) 49 v41) 48 v41) 61 v53) 60 v53) 77 v67) 76 v67) 95 v86) 94 v86) 113 v105) 112 v105) 114 v106) 115 v107) 116 q108.1) 117 q108.1
                          (gsel q108.1 true
                            ((ld true 5 (ptr (n) 0) q108.2.1).bind fun v111 =>
                             (fieldA 1 (ptr (n) 0)).bind fun v112 =>
                             (ld false 1 v112 q108.2.1).bind fun v113 =>
                             (bld [.int .i64 0, .int .i64 0, .string ⟨#[]⟩, .int .i64 0, .int .i64 0] [(0, 1, .int .i64 8), (1, 1, v113)]).bind fun v114 =>
                             (binK (.agg [(0, (.int .i64)), (1, (.int .i64)), (2, .string), (3, (.int .i64)), (4, (.int .i64))]) .eql v111 v114).bind fun v115 =>
                             some (put (put (put (put (put t110 118 v111) 119 v112) 120 v113) 121 v114) 122 v115, q108.2.1, q108.2.2))
                            (some (put (put (put (put (put t110 118 (.tuple #[])) 119 (.tuple #[])) 120 (.tuple #[])) 121 (.tuple #[])) 122 (.tuple #[]), q108.2.1, q108.2.2))
                          ).bind fun (q109 : R3) =>
                          (pickV (q109.1 117) (q109.1 122) (.bool false)).bind fun v116 =>
                          some (v116, q109.2.1, q109.2.2))
                         ((binK .plain .eql v12 (.int .i64 9)).bind fun v117 =>
                          csel v117
                            ((fieldA 1 (ptr (n) 0)).bind fun v118 =>
                             (ld false 1 v118 q10.2.1).bind fun v119 =>
                             (C 51 [v119, .int .i64 0, .int .i64 1000000000] q10.2.1 (q10.2.2 + 31)).bind fun q120 =>
                             let t122 : Tm := put (put (put (put (put (put (put (put (put (put (put (put (put (put (put (put (put (put (put (put (put (put (put (put (put (put (put (put (put (put (put (put (put (put (put (put (put (put t 2 (ptr (n) 0)) 4 (.bool false)) 7 v3) 8 v4) 9 (t 1)) 10 v5) 11 q6.1) 5 q6.1) 12 v7) 13 v8) 14 (t 1)) 15 v9) 16 q10.1) 6 q10.1) 17 v11) 18 v12) 20 v13) 19 v13) 25 v17) 24 v17) 37 v29) 36 v29) 49 v41) 48 v41) 61 v53) 60 v53) 77 v67) 76 v67) 95 v86) 94 v86) 113 v105) 112 v105) 125 v117) 124 v117) 126 v118) 127 v119) 128 q120.1) 129 q120.1
                             (gsel q120.1 true
                               ((ld true 5 (ptr (n) 0) q120.2.1).bind fun v123 =>
                                (fieldA 1 (ptr (n) 0)).bind fun v124 =>
                                (ld false 1 v124 q120.2.1).bind fun v125 =>
                                (bld [.int .i64 0, .int .i64 0, .string ⟨#[]⟩, .int .i64 0, .int .i64 0] [(0, 1, .int .i64 9), (1, 1, v125)]).bind fun v126 =>
                                (binK (.agg [(0, (.int .i64)), (1, (.int .i64)), (2, .string), (3, (.int .i64)), (4, (.int .i64))]) .eql v123 v126).bind fun v127 =>
                                some (put (put (put (put (put t122 130 v123) 131 v124) 132 v125) 133 v126) 134 v127, q120.2.1, q120.2.2))
                               (some (put (put (put (put (put t122 130 (.tuple #[])) 131 (.tuple #[])) 132 (.tuple #[])) 133 (.tuple #[])) 134 (.tuple #[]), q120.2.1, q120.2.2))
                             ).bind fun (q121 : R3) =>
                             (pickV (q121.1 129) (q121.1 134) (.bool false)).bind fun v128 =>
                             some (v128, q121.2.1, q121.2.2))
                            (some (.bool false, q10.2.1, q10.2.2 + 21))))))))))
theorem s50 (C : Calling) (L : Body → Body) (t : Tm) (H : Hp) (n : Nat) : bodyK Try.prog C L Try.f50 t H n = S50 C L t H n := by kernel_rfl
theorem c50 (args : List Value) (H : Hp) (n : Nat) : Call Try.prog 50 args H n = S50 (Call Try.prog) Loop (argsT args) H n := (Call_body Try.func50 args H n).trans (s50 ..)
/-! 51: spec.l1In -/
noncomputable def S51 (C : Calling) (L : Body → Body) (t : Tm) (H : Hp) (n : Nat) : Option (Value × Hp × Nat) :=
  (binK .plain .geq (t 0) (t 1)).bind fun v1 =>
  let t3 : Tm := put (put (put (put (put t 6 (.bool false)) 7 (t 0)) 8 (t 1)) 9 v1) 10 v1
  (gsel v1 true
    ((binK .plain .leq (t3 0) (t3 2)).bind fun v4 =>
     some (put (put (put t3 11 (t3 0)) 12 (t3 2)) 13 v4, H, n + 10))
    (some (put (put (put t3 11 (.tuple #[])) 12 (.tuple #[])) 13 (.tuple #[]), H, n + 10))
  ).bind fun (q2 : R3) =>
  (pickV (q2.1 10) (q2.1 13) (.bool false)).bind fun v5 =>
  some (v5, q2.2.1, q2.2.2)
theorem s51 (C : Calling) (L : Body → Body) (t : Tm) (H : Hp) (n : Nat) : bodyK Try.prog C L Try.f51 t H n = S51 C L t H n := by kernel_rfl
theorem c51 (args : List Value) (H : Hp) (n : Nat) : Call Try.prog 51 args H n = S51 (Call Try.prog) Loop (argsT args) H n := (Call_body Try.func51 args H n).trans (s51 ..)
/-! 52: spec.l3Digits -/
noncomputable def S52L0 (C : Calling) (L : Body → Body) : Body := fun t H n =>
  (binK .plain .gtr (t 0) (.int .i64 0)).bind fun v7 =>
  csel v7
    ((binK .plain .rem (t 0) (.int .i64 10)).bind fun v8 =>
     (binK .plain .add (.int .i64 48) v8).bind fun v9 =>
     (conv (.toInt .u8) (n + 5) v9 H).bind fun p10 =>
     (bsl (n + 6) 1 1 [.int .u8 0] [(0, 1, p10.1)] p10.2).bind fun p11 =>
     (conv .bytesToStr (n + 7) p11.1 p11.2).bind fun p12 =>
     (binK .plain .add p12.1 (t 3)).bind fun v13 =>
     (binK .plain .quo (t 0) (.int .i64 10)).bind fun v14 =>
     some ⟨.normal, put (put (put (put (put (put (put (put (put (put (put (put (put (put t 12 (t 0)) 13 v7) 14 (t 0)) 15 v8) 16 v9) 17 p10.1) 18 p11.1) 19 p12.1) 20 (t 3)) 21 v13) 3 v13) 22 (t 0)) 23 v14) 0 v14, p12.2, n + 14⟩)
    (some ⟨(.exit 0), put (put t 12 (t 0)) 13 v7, H, n + 2⟩)
noncomputable def S52 (C : Calling) (L : Body → Body) (t : Tm) (H : Hp) (n : Nat) : Option (Value × Hp × Nat) :=
  (binK .plain .lss (t 0) (.int .i64 0)).bind fun v1 =>
  csel v1
    ((binK .plain .sub (.int .i64 0) (t 0)).bind fun v2 =>
     (C 52 [v2] H (n + 8)).bind fun q3 =>
     (binK .plain .add (.string ⟨#[45]⟩) q3.1).bind fun v4 =>
     some (v4, q3.2.1, q3.2.2))
    ((binK .plain .eql (t 0) (.int .i64 0)).bind fun v5 =>
     csel v5
       (some (.string ⟨#[48]⟩, H, n + 6))
       ((L (S52L0 C L) (put (put (put (put (put (put t 2 (.string ⟨#[]⟩)) 4 (t 0)) 5 v1) 10 (t 0)) 11 v5) 3 (.string ⟨#[]⟩)) H (n + 6)).bind fun (o6 : Out) =>
        some (o6.t 3, o6.H, o6.n + 2)))
theorem s52 (C : Calling) (L : Body → Body) (t : Tm) (H : Hp) (n : Nat) : bodyK Try.prog C L Try.f52 t H n = S52 C L t H n := by kernel_rfl
theorem c52 (args : List Value) (H : Hp) (n : Nat) : Call Try.prog 52 args H n = S52 (Call Try.prog) Loop (argsT args) H n := (Call_body Try.func52 args H n).trans (s52 ..)
/-! 53: laws.toNode -/
noncomputable def S53 (C : Calling) (L : Body → Body) (t : Tm) (H : Hp) (n : Nat) : Option (Value × Hp × Nat) :=
  (vcells (t 0)).bind fun c2 =>
  let H1 := H.set (n) (some (.row c2 0 true))
  let H3 := H1.set (n + 1) (some (.row [.int .i64 0, .int .i64 0, .string ⟨#[]⟩, .int .i64 0, .int .i64 0] 0 true))
  let H4 := H3.set (n + 2) (some (.row [.int .i64 0, .int .i64 0, .string ⟨#[]⟩, .int .i64 0, .int .i64 0] 0 true))
  (fieldA 0 (ptr (n) 0)).bind fun v5 =>
  (ld false 1 v5 H4).bind fun v6 =>
  (fieldA 0 (ptr (n + 2) 0)).bind fun v7 =>
  (st false 1 v7 v6 H4).bind fun H8 =>
  (fieldA 1 (ptr (n) 0)).bind fun v9 =>
  (ld false 1 v9 H8).bind fun v10 =>
  (fieldA 1 (ptr (n + 2) 0)).bind fun v11 =>
  (st false 1 v11 v10 H8).bind fun H12 =>
  (fieldA 2 (ptr (n) 0)).bind fun v13 =>
  (ld false 1 v13 H12).bind fun v14 =>
  (fieldA 2 (ptr (n + 2) 0)).bind fun v15 =>
  (st false 1 v15 v14 H12).bind fun H16 =>
  (fieldA 3 (ptr (n) 0)).bind fun v17 =>
  (ld false 1 v17 H16).bind fun v18 =>
  (fieldA 3 (ptr (n + 2) 0)).bind fun v19 =>
  (st false 1 v19 v18 H16).bind fun H20 =>
  (fieldA 4 (ptr (n) 0)).bind fun v21 =>
  (ld false 1 v21 H20).bind fun v22 =>
  (fieldA 4 (ptr (n + 2) 0)).bind fun v23 =>
  (st false 1 v23 v22 H20).bind fun H24 =>
  (ld true 5 (ptr (n + 2) 0) H24).bind fun v25 =>
  (st true 5 (ptr (n + 1) 0) v25 H24).bind fun H26 =>
  (ld true 5 (ptr (n + 1) 0) H26).bind fun v27 =>
  some (v27, H26, n + 25)
theorem s53 (C : Calling) (L : Body → Body) (t : Tm) (H : Hp) (n : Nat) : bodyK Try.prog C L Try.f53 t H n = S53 C L t H n := by kernel_rfl
theorem c53 (args : List Value) (H : Hp) (n : Nat) : Call Try.prog 53 args H n = S53 (Call Try.prog) Loop (argsT args) H n := (Call_body Try.func53 args H n).trans (s53 ..)
/-! 54: impl.within -/
noncomputable def S54 (C : Calling) (L : Body → Body) (t : Tm) (H : Hp) (n : Nat) : Option (Value × Hp × Nat) :=
  (binK .plain .geq (t 0) (t 1)).bind fun v1 =>
  let t3 : Tm := put (put (put (put (put t 6 (.bool false)) 7 (t 0)) 8 (t 1)) 9 v1) 10 v1
  (gsel v1 true
    ((binK .plain .leq (t3 0) (t3 2)).bind fun v4 =>
     some (put (put (put t3 11 (t3 0)) 12 (t3 2)) 13 v4, H, n + 10))
    (some (put (put (put t3 11 (.tuple #[])) 12 (.tuple #[])) 13 (.tuple #[]), H, n + 10))
  ).bind fun (q2 : R3) =>
  (pickV (q2.1 10) (q2.1 13) (.bool false)).bind fun v5 =>
  some (v5, q2.2.1, q2.2.2)
theorem s54 (C : Calling) (L : Body → Body) (t : Tm) (H : Hp) (n : Nat) : bodyK Try.prog C L Try.f54 t H n = S54 C L t H n := by kernel_rfl
theorem c54 (args : List Value) (H : Hp) (n : Nat) : Call Try.prog 54 args H n = S54 (Call Try.prog) Loop (argsT args) H n := (Call_body Try.func54 args H n).trans (s54 ..)
/-! 55: impl.writing).text -/
noncomputable def S55 (C : Calling) (L : Body → Body) (t : Tm) (H : Hp) (n : Nat) : Option (Value × Hp × Nat) :=
  (nilchk (t 0)).bind fun v1 =>
  (fieldA 1 v1).bind fun v2 =>
  (ld false 1 v2 H).bind fun v3 =>
  (app (n + 6) 1 1 v3 (t 1) H).bind fun p4 =>
  (nilchk (t 0)).bind fun v5 =>
  (fieldA 1 v5).bind fun v6 =>
  (st false 1 v6 p4.1 p4.2).bind fun H7 =>
  some (.tuple ⟨[]⟩, H7, n + 10)
theorem s55 (C : Calling) (L : Body → Body) (t : Tm) (H : Hp) (n : Nat) : bodyK Try.prog C L Try.f55 t H n = S55 C L t H n := by kernel_rfl
theorem c55 (args : List Value) (H : Hp) (n : Nat) : Call Try.prog 55 args H n = S55 (Call Try.prog) Loop (argsT args) H n := (Call_body Try.func55 args H n).trans (s55 ..)
/-! 56: impl.writing).pairs -/
noncomputable def S56L0 (C : Calling) (L : Body → Body) : Body := fun t H n =>
  (nilchk (t 0)).bind fun v2 =>
  (fieldA 0 v2).bind fun v3 =>
  (fieldA 0 v3).bind fun v4 =>
  (ld false 1 v4 H).bind fun v5 =>
  (idxA 5 v5 (t 1)).bind fun v6 =>
  (fieldA 0 v6).bind fun v7 =>
  (ld false 1 v7 H).bind fun v8 =>
  (binK .plain .eql v8 (.int .i64 5)).bind fun v9 =>
  let t11 : Tm := put (put (put (put (put (put (put (put (put (put (put t 6 (t 0)) 7 v2) 8 v3) 9 v4) 10 v5) 11 (t 1)) 12 v6) 13 v7) 14 v8) 15 v9) 16 v9
  (gsel v9 true
    ((C 30 [t11 0] H (n + 15)).bind fun q12 =>
     (un .not q12.1).bind fun v13 =>
     some (put (put (put t11 17 (t11 0)) 18 q12.1) 19 v13, q12.2.1, q12.2.2))
    (some (put (put (put t11 17 (.tuple #[])) 18 (.tuple #[])) 19 (.tuple #[]), H, n + 15))
  ).bind fun (q10 : R3) =>
  (pickV (q10.1 16) (q10.1 19) (.bool false)).bind fun v14 =>
  csel v14
    ((un .not (q10.1 4)).bind fun v15 =>
     let t17 : Tm := put (put (put q10.1 20 v14) 21 (q10.1 4)) 22 v15
     (csel v15
       ((C 55 [t17 0, .string ⟨#[32]⟩] q10.2.1 (q10.2.2 + 4)).bind fun q18 =>
        some ⟨.normal, put (put t17 23 (t17 0)) 24 q18.1, q18.2.1, q18.2.2⟩)
       (some ⟨.normal, t17, q10.2.1, q10.2.2 + 2⟩)
     ).bind fun (o16 : Out) =>
     (nilchk (o16.t 0)).bind fun v19 =>
     (fieldA 0 v19).bind fun v20 =>
     (fieldA 0 v20).bind fun v21 =>
     (ld false 1 v21 o16.H).bind fun v22 =>
     (idxA 5 v22 (o16.t 1)).bind fun v23 =>
     (fieldA 3 v23).bind fun v24 =>
     (ld false 1 v24 o16.H).bind fun v25 =>
     (C 29 [o16.t 0, v25] o16.H (o16.n + 11)).bind fun q26 =>
     (nilchk (o16.t 0)).bind fun v27 =>
     (fieldA 0 v27).bind fun v28 =>
     (fieldA 0 v28).bind fun v29 =>
     (ld false 1 v29 q26.2.1).bind fun v30 =>
     (idxA 5 v30 (o16.t 1)).bind fun v31 =>
     (fieldA 4 v31).bind fun v32 =>
     (ld false 1 v32 q26.2.1).bind fun v33 =>
     some ⟨.normal, put (put (put (put (put (put (put (put (put (put (put (put (put (put (put (put (put (put (put (put (put (put o16.t 25 (o16.t 0)) 26 (o16.t 0)) 27 v19) 28 v20) 29 v21) 30 v22) 31 (o16.t 1)) 32 v23) 33 v24) 34 v25) 35 q26.1) 36 (o16.t 0)) 37 v27) 38 v28) 39 v29) 40 v30) 41 (o16.t 1)) 42 v31) 43 v32) 44 v33) 1 v33) 4 (.bool false), q26.2.1, q26.2.2 + 11⟩)
    (some ⟨(.exit 0), put q10.1 20 v14, q10.2.1, q10.2.2⟩)
noncomputable def S56 (C : Calling) (L : Body → Body) (t : Tm) (H : Hp) (n : Nat) : Option (Value × Hp × Nat) :=
  (L (S56L0 C L) (put t 4 (.bool true)) H (n + 1)).bind fun (o1 : Out) =>
  (nilchk (o1.t 0)).bind fun v34 =>
  (fieldA 0 v34).bind fun v35 =>
  (fieldA 0 v35).bind fun v36 =>
  (ld false 1 v36 o1.H).bind fun v37 =>
  (idxA 5 v37 (o1.t 1)).bind fun v38 =>
  (fieldA 0 v38).bind fun v39 =>
  (ld false 1 v39 o1.H).bind fun v40 =>
  (binK .plain .neq v40 (.int .i64 1)).bind fun v41 =>
  let t43 : Tm := put (put (put (put (put (put (put (put (put (put (put (put (put o1.t 45 (o1.t 0)) 46 v34) 47 v35) 48 v36) 49 v37) 50 (o1.t 1)) 51 v38) 52 v39) 53 v40) 5 v40) 54 v40) 55 v41) 56 v41
  (gsel v41 true
    ((binK .plain .neq v40 (.int .i64 5)).bind fun v44 =>
     some (put (put t43 57 v40) 58 v44, o1.H, o1.n + 16))
    (some (put (put t43 57 (.tuple #[])) 58 (.tuple #[]), o1.H, o1.n + 16))
  ).bind fun (q42 : R3) =>
  (pickV (q42.1 56) (q42.1 58) (.bool false)).bind fun v45 =>
  let t47 : Tm := put q42.1 59 v45
  (csel v45
    ((C 55 [t47 0, .string ⟨#[32, 46, 32]⟩] q42.2.1 (q42.2.2 + 2)).bind fun q48 =>
     (C 29 [t47 0, t47 1] q48.2.1 (q48.2.2 + 3)).bind fun q49 =>
     some ⟨.normal, put (put (put (put (put t47 60 (t47 0)) 61 q48.1) 62 (t47 0)) 63 (t47 1)) 64 q49.1, q49.2.1, q49.2.2⟩)
    (some ⟨.normal, t47, q42.2.1, q42.2.2⟩)
  ).bind fun (o46 : Out) =>
  some (.tuple ⟨[]⟩, o46.H, o46.n)
theorem s56 (C : Calling) (L : Body → Body) (t : Tm) (H : Hp) (n : Nat) : bodyK Try.prog C L Try.f56 t H n = S56 C L t H n := by kernel_rfl
theorem c56 (args : List Value) (H : Hp) (n : Nat) : Call Try.prog 56 args H n = S56 (Call Try.prog) Loop (argsT args) H n := (Call_body Try.func56 args H n).trans (s56 ..)
/-! 57: impl.decimal -/
noncomputable def S57 (C : Calling) (L : Body → Body) (t : Tm) (H : Hp) (n : Nat) : Option (Value × Hp × Nat) :=
  (binK .plain .lss (t 0) (.int .i64 0)).bind fun v1 =>
  let t3 : Tm := put (put (put (put t 2 (.string ⟨#[]⟩)) 4 (t 0)) 5 v1) 6 v1
  (gsel v1 true
    ((binK .plain .gtr (t3 0) (.int .i64 (-10))).bind fun v4 =>
     some (put (put t3 7 (t3 0)) 8 v4, H, n + 8))
    (some (put (put t3 7 (.tuple #[])) 8 (.tuple #[]), H, n + 8))
  ).bind fun (q2 : R3) =>
  (pickV (q2.1 6) (q2.1 8) (.bool false)).bind fun v5 =>
  csel v5
    ((un .neg (q2.1 0)).bind fun v6 =>
     (C 57 [v6] q2.2.1 (q2.2.2 + 5)).bind fun q7 =>
     (binK .plain .add (.string ⟨#[45]⟩) q7.1).bind fun v8 =>
     some (v8, q7.2.1, q7.2.2))
    ((binK .plain .lss (q2.1 0) (.int .i64 0)).bind fun v9 =>
     csel v9
       ((binK .plain .quo (q2.1 0) (.int .i64 10)).bind fun v10 =>
        (C 57 [v10] q2.2.1 (q2.2.2 + 12)).bind fun q11 =>
        (binK .plain .rem (q2.1 0) (.int .i64 10)).bind fun v12 =>
        (un .neg v12).bind fun v13 =>
        (C 57 [v13] q11.2.1 (q11.2.2)).bind fun q14 =>
        (binK .plain .add q11.1 q14.1).bind fun v15 =>
        some (v15, q14.2.1, q14.2.2))
       ((binK .plain .lss (q2.1 0) (.int .i64 10)).bind fun v16 =>
        csel v16
          ((binK .plain .add (.int .i64 48) (q2.1 0)).bind fun v17 =>
           (conv (.toInt .i32) (q2.2.2 + 8) v17 q2.2.1).bind fun p18 =>
           (conv .intToStr (q2.2.2 + 9) p18.1 p18.2).bind fun p19 =>
           some (p19.1, p19.2, q2.2.2 + 11))
          ((binK .plain .quo (q2.1 0) (.int .i64 10)).bind fun v20 =>
           (C 57 [v20] q2.2.1 (q2.2.2 + 16)).bind fun q21 =>
           (binK .plain .rem (q2.1 0) (.int .i64 10)).bind fun v22 =>
           (binK .plain .add (.int .i64 48) v22).bind fun v23 =>
           (conv (.toInt .i32) (q2.2.2 + 12) v23 q21.2.1).bind fun p24 =>
           (conv .intToStr (q2.2.2 + 13) p24.1 p24.2).bind fun p25 =>
           (binK .plain .add q21.1 p25.1).bind fun v26 =>
           some (v26, p25.2, q21.2.2))))
theorem s57 (C : Calling) (L : Body → Body) (t : Tm) (H : Hp) (n : Nat) : bodyK Try.prog C L Try.f57 t H n = S57 C L t H n := by kernel_rfl
theorem c57 (args : List Value) (H : Hp) (n : Nat) : Call Try.prog 57 args H n = S57 (Call Try.prog) Loop (argsT args) H n := (Call_body Try.func57 args H n).trans (s57 ..)
/-! 58: laws.eqNode -/
noncomputable def S58 (C : Calling) (L : Body → Body) (t : Tm) (H : Hp) (n : Nat) : Option (Value × Hp × Nat) :=
  (vcells (t 0)).bind fun c2 =>
  let H1 := H.set (n) (some (.row c2 0 true))
  (vcells (t 1)).bind fun c4 =>
  let H3 := H1.set (n + 1) (some (.row c4 0 true))
  (fieldA 0 (ptr (n) 0)).bind fun v5 =>
  (ld false 1 v5 H3).bind fun v6 =>
  (fieldA 0 (ptr (n + 1) 0)).bind fun v7 =>
  (ld false 1 v7 H3).bind fun v8 =>
  (binK .plain .neq v6 v8).bind fun v9 =>
  csel v9
    (some (.bool false, H3, n + 9))
    ((fieldA 1 (ptr (n) 0)).bind fun v10 =>
     (ld false 1 v10 H3).bind fun v11 =>
     (fieldA 1 (ptr (n + 1) 0)).bind fun v12 =>
     (ld false 1 v12 H3).bind fun v13 =>
     (binK .plain .neq v11 v13).bind fun v14 =>
     csel v14
       (some (.bool false, H3, n + 14))
       ((fieldA 2 (ptr (n) 0)).bind fun v15 =>
        (ld false 1 v15 H3).bind fun v16 =>
        (fieldA 2 (ptr (n + 1) 0)).bind fun v17 =>
        (ld false 1 v17 H3).bind fun v18 =>
        (binK .plain .neq v16 v18).bind fun v19 =>
        csel v19
          (some (.bool false, H3, n + 19))
          ((fieldA 3 (ptr (n) 0)).bind fun v20 =>
           (ld false 1 v20 H3).bind fun v21 =>
           (fieldA 3 (ptr (n + 1) 0)).bind fun v22 =>
           (ld false 1 v22 H3).bind fun v23 =>
           (binK .plain .neq v21 v23).bind fun v24 =>
           csel v24
             (some (.bool false, H3, n + 24))
             ((fieldA 4 (ptr (n) 0)).bind fun v25 =>
              (ld false 1 v25 H3).bind fun v26 =>
              (fieldA 4 (ptr (n + 1) 0)).bind fun v27 =>
              (ld false 1 v27 H3).bind fun v28 =>
              (binK .plain .neq v26 v28).bind fun v29 =>
              csel v29
                (some (.bool false, H3, n + 29))
                (some (.bool true, H3, n + 29))))))
theorem s58 (C : Calling) (L : Body → Body) (t : Tm) (H : Hp) (n : Nat) : bodyK Try.prog C L Try.f58 t H n = S58 C L t H n := by kernel_rfl
theorem c58 (args : List Value) (H : Hp) (n : Nat) : Call Try.prog 58 args H n = S58 (Call Try.prog) Loop (argsT args) H n := (Call_body Try.func58 args H n).trans (s58 ..)
/-! 72: impl.NameOk -/
noncomputable def S72L0 (C : Calling) (L : Body → Body) : Body := fun t H n =>
  (binK .plain .lss (t 10) (t 9)).bind fun v6 =>
  csel v6
    ((idxS (t 0) (t 10)).bind fun v7 =>
     (C 78 [v7] H (n + 8)).bind fun q8 =>
     (un .not q8.1).bind fun v9 =>
     csel v9
       (some ⟨.ret, put (put (put (put (put (put (put (put (put t 11 v6) 12 (t 10)) 3 (t 10)) 13 (t 0)) 14 (t 10)) 15 v7) 16 q8.1) 17 v9) 2 (.bool false), q8.2.1, q8.2.2 + 1⟩)
       ((binK .plain .add (t 10) (.int .i64 1)).bind fun v10 =>
        some ⟨.normal, put (put (put (put (put (put (put (put (put (put t 11 v6) 12 (t 10)) 3 (t 10)) 13 (t 0)) 14 (t 10)) 15 v7) 16 q8.1) 17 v9) 18 v10) 10 v10, q8.2.1, q8.2.2 + 2⟩))
    (some ⟨(.exit 0), put t 11 v6, H, n + 1⟩)
noncomputable def S72 (C : Calling) (L : Body → Body) (t : Tm) (H : Hp) (n : Nat) : Option (Value × Hp × Nat) :=
  (lenV true (t 0)).bind fun v1 =>
  (C 54 [v1, .int .i64 1, .int .i64 12] H (n + 5)).bind fun q2 =>
  (un .not q2.1).bind fun v3 =>
  csel v3
    (some (.bool false, q2.2.1, q2.2.2 + 1))
    ((lenV true (t 0)).bind fun v4 =>
     (L (S72L0 C L) (put (put (put (put (put (put (put (put t 2 (.bool false)) 4 (t 0)) 5 v1) 6 q2.1) 7 v3) 8 (t 0)) 9 v4) 10 (.int .i64 0)) q2.2.1 (q2.2.2 + 3)).bind fun (o5 : Out) =>
     let o11 := outOf 0 o5
     thenK o11
       (some (.bool true, o11.H, o11.n + 1))
       (finE o11.e
          (some (o11.t 2, o11.H, o11.n))))
theorem s72 (C : Calling) (L : Body → Body) (t : Tm) (H : Hp) (n : Nat) : bodyK Try.prog C L Try.f72 t H n = S72 C L t H n := by kernel_rfl
theorem c72 (args : List Value) (H : Hp) (n : Nat) : Call Try.prog 72 args H n = S72 (Call Try.prog) Loop (argsT args) H n := (Call_body Try.func72 args H n).trans (s72 ..)
/-! 73: spec.NameOk -/
noncomputable def S73L0 (C : Calling) (L : Body → Body) : Body := fun t H n =>
  (lenV true (t 0)).bind fun v2 =>
  (binK .plain .lss (t 3) v2).bind fun v3 =>
  csel v3
    ((idxS (t 0) (t 3)).bind fun v4 =>
     (C 79 [v4] H (n + 9)).bind fun q5 =>
     (un .not q5.1).bind fun v6 =>
     csel v6
       (some ⟨.ret, put (put (put (put (put (put (put (put (put (put t 4 (t 3)) 5 (t 0)) 6 v2) 7 v3) 10 (t 0)) 11 (t 3)) 12 v4) 13 q5.1) 14 v6) 2 (.bool false), q5.2.1, q5.2.2 + 1⟩)
       ((binK .plain .add (t 3) (.int .i64 1)).bind fun v7 =>
        some ⟨.normal, put (put (put (put (put (put (put (put (put (put (put (put t 4 (t 3)) 5 (t 0)) 6 v2) 7 v3) 10 (t 0)) 11 (t 3)) 12 v4) 13 q5.1) 14 v6) 8 (t 3)) 9 v7) 3 v7, q5.2.1, q5.2.2 + 3⟩))
    (some ⟨(.exit 0), put (put (put (put t 4 (t 3)) 5 (t 0)) 6 v2) 7 v3, H, n + 4⟩)
noncomputable def S73 (C : Calling) (L : Body → Body) (t : Tm) (H : Hp) (n : Nat) : Option (Value × Hp × Nat) :=
  (L (S73L0 C L) (put (put t 2 (.bool false)) 3 (.int .i64 0)) H (n + 2)).bind fun (o1 : Out) =>
  let o8 := outOf 0 o1
  thenK o8
    ((lenV true (o8.t 0)).bind fun v9 =>
     (C 51 [v9, .int .i64 1, .int .i64 12] o8.H (o8.n + 4)).bind fun q10 =>
     some (q10.1, q10.2.1, q10.2.2))
    (finE o8.e
       (some (o8.t 2, o8.H, o8.n)))
theorem s73 (C : Calling) (L : Body → Body) (t : Tm) (H : Hp) (n : Nat) : bodyK Try.prog C L Try.f73 t H n = S73 C L t H n := by kernel_rfl
theorem c73 (args : List Value) (H : Hp) (n : Nat) : Call Try.prog 73 args H n = S73 (Call Try.prog) Loop (argsT args) H n := (Call_body Try.func73 args H n).trans (s73 ..)
/-! 78: impl.isNameByte -/
noncomputable def S78 (C : Calling) (L : Body → Body) (t : Tm) (H : Hp) (n : Nat) : Option (Value × Hp × Nat) :=
  (binK .plain .geq (t 0) (.int .u8 97)).bind fun v1 =>
  let t3 : Tm := put (put (put (put t 2 (.bool false)) 3 (t 0)) 4 v1) 5 v1
  (gsel v1 true
    ((binK .plain .leq (t3 0) (.int .u8 122)).bind fun v4 =>
     some (put (put t3 6 (t3 0)) 7 v4, H, n + 14))
    (some (put (put t3 6 (.tuple #[])) 7 (.tuple #[]), H, n + 14))
  ).bind fun (q2 : R3) =>
  (pickV (q2.1 5) (q2.1 7) (.bool false)).bind fun v5 =>
  let t7 : Tm := put (put q2.1 8 v5) 9 v5
  (gsel v5 false
    ((bsl (n + 8) 1 8 [.int .u8 0] [(0, 1, .int .u8 43), (1, 1, .int .u8 45), (2, 1, .int .u8 42), (3, 1, .int .u8 60), (4, 1, .int .u8 61), (5, 1, .int .u8 63), (6, 1, .int .u8 33), (7, 1, .int .u8 47)] q2.2.1).bind fun p8 =>
     (conv .mark (n + 9) p8.1 p8.2).bind fun p9 =>
     (C 81 [p9.1, t7 0] p9.2 (q2.2.2)).bind fun q10 =>
     some (put (put (put (put t7 10 p8.1) 11 p9.1) 12 (t7 0)) 13 q10.1, q10.2.1, q10.2.2))
    (some (put (put (put (put t7 10 (.tuple #[])) 11 (.tuple #[])) 12 (.tuple #[])) 13 (.tuple #[]), q2.2.1, q2.2.2))
  ).bind fun (q6 : R3) =>
  (pickV (q6.1 9) (.bool true) (q6.1 13)).bind fun v11 =>
  some (v11, q6.2.1, q6.2.2)
theorem s78 (C : Calling) (L : Body → Body) (t : Tm) (H : Hp) (n : Nat) : bodyK Try.prog C L Try.f78 t H n = S78 C L t H n := by kernel_rfl
theorem c78 (args : List Value) (H : Hp) (n : Nat) : Call Try.prog 78 args H n = S78 (Call Try.prog) Loop (argsT args) H n := (Call_body Try.func78 args H n).trans (s78 ..)
/-! 79: spec.l2NameByte -/
noncomputable def S79 (C : Calling) (L : Body → Body) (t : Tm) (H : Hp) (n : Nat) : Option (Value × Hp × Nat) :=
  (binK .plain .geq (t 0) (.int .u8 97)).bind fun v1 =>
  let t3 : Tm := put (put (put (put t 2 (.bool false)) 3 (t 0)) 4 v1) 5 v1
  (gsel v1 true
    ((binK .plain .leq (t3 0) (.int .u8 122)).bind fun v4 =>
     some (put (put t3 6 (t3 0)) 7 v4, H, n + 40))
    (some (put (put t3 6 (.tuple #[])) 7 (.tuple #[]), H, n + 40))
  ).bind fun (q2 : R3) =>
  (pickV (q2.1 5) (q2.1 7) (.bool false)).bind fun v5 =>
  let t7 : Tm := put (put q2.1 8 v5) 9 v5
  (gsel v5 false
    ((binK .plain .eql (t7 0) (.int .u8 43)).bind fun v8 =>
     some (put (put t7 10 (t7 0)) 11 v8, q2.2.1, q2.2.2))
    (some (put (put t7 10 (.tuple #[])) 11 (.tuple #[]), q2.2.1, q2.2.2))
  ).bind fun (q6 : R3) =>
  (pickV (q6.1 9) (.bool true) (q6.1 11)).bind fun v9 =>
  let t11 : Tm := put (put q6.1 12 v9) 13 v9
  (gsel v9 false
    ((binK .plain .eql (t11 0) (.int .u8 45)).bind fun v12 =>
     some (put (put t11 14 (t11 0)) 15 v12, q6.2.1, q6.2.2))
    (some (put (put t11 14 (.tuple #[])) 15 (.tuple #[]), q6.2.1, q6.2.2))
  ).bind fun (q10 : R3) =>
  (pickV (q10.1 13) (.bool true) (q10.1 15)).bind fun v13 =>
  let t15 : Tm := put (put q10.1 16 v13) 17 v13
  (gsel v13 false
    ((binK .plain .eql (t15 0) (.int .u8 42)).bind fun v16 =>
     some (put (put t15 18 (t15 0)) 19 v16, q10.2.1, q10.2.2))
    (some (put (put t15 18 (.tuple #[])) 19 (.tuple #[]), q10.2.1, q10.2.2))
  ).bind fun (q14 : R3) =>
  (pickV (q14.1 17) (.bool true) (q14.1 19)).bind fun v17 =>
  let t19 : Tm := put (put q14.1 20 v17) 21 v17
  (gsel v17 false
    ((binK .plain .eql (t19 0) (.int .u8 60)).bind fun v20 =>
     some (put (put t19 22 (t19 0)) 23 v20, q14.2.1, q14.2.2))
    (some (put (put t19 22 (.tuple #[])) 23 (.tuple #[]), q14.2.1, q14.2.2))
  ).bind fun (q18 : R3) =>
  (pickV (q18.1 21) (.bool true) (q18.1 23)).bind fun v21 =>
  let t23 : Tm := put (put q18.1 24 v21) 25 v21
  (gsel v21 false
    ((binK .plain .eql (t23 0) (.int .u8 61)).bind fun v24 =>
     some (put (put t23 26 (t23 0)) 27 v24, q18.2.1, q18.2.2))
    (some (put (put t23 26 (.tuple #[])) 27 (.tuple #[]), q18.2.1, q18.2.2))
  ).bind fun (q22 : R3) =>
  (pickV (q22.1 25) (.bool true) (q22.1 27)).bind fun v25 =>
  let t27 : Tm := put (put q22.1 28 v25) 29 v25
  (gsel v25 false
    ((binK .plain .eql (t27 0) (.int .u8 63)).bind fun v28 =>
     some (put (put t27 30 (t27 0)) 31 v28, q22.2.1, q22.2.2))
    (some (put (put t27 30 (.tuple #[])) 31 (.tuple #[]), q22.2.1, q22.2.2))
  ).bind fun (q26 : R3) =>
  (pickV (q26.1 29) (.bool true) (q26.1 31)).bind fun v29 =>
  let t31 : Tm := put (put q26.1 32 v29) 33 v29
  (gsel v29 false
    ((binK .plain .eql (t31 0) (.int .u8 33)).bind fun v32 =>
     some (put (put t31 34 (t31 0)) 35 v32, q26.2.1, q26.2.2))
    (some (put (put t31 34 (.tuple #[])) 35 (.tuple #[]), q26.2.1, q26.2.2))
  ).bind fun (q30 : R3) =>
  (pickV (q30.1 33) (.bool true) (q30.1 35)).bind fun v33 =>
  let t35 : Tm := put (put q30.1 36 v33) 37 v33
  (gsel v33 false
    ((binK .plain .eql (t35 0) (.int .u8 47)).bind fun v36 =>
     some (put (put t35 38 (t35 0)) 39 v36, q30.2.1, q30.2.2))
    (some (put (put t35 38 (.tuple #[])) 39 (.tuple #[]), q30.2.1, q30.2.2))
  ).bind fun (q34 : R3) =>
  (pickV (q34.1 37) (.bool true) (q34.1 39)).bind fun v37 =>
  some (v37, q34.2.1, q34.2.2)
theorem s79 (C : Calling) (L : Body → Body) (t : Tm) (H : Hp) (n : Nat) : bodyK Try.prog C L Try.f79 t H n = S79 C L t H n := by kernel_rfl
theorem c79 (args : List Value) (H : Hp) (n : Nat) : Call Try.prog 79 args H n = S79 (Call Try.prog) Loop (argsT args) H n := (Call_body Try.func79 args H n).trans (s79 ..)
/-! 81: slices.Contains[[]byte,byte] -/
noncomputable def S81 (C : Calling) (L : Body → Body) (t : Tm) (H : Hp) (n : Nat) : Option (Value × Hp × Nat) :=
  (C 82 [t 0, t 1] H (n + 6)).bind fun q1 =>
  (binK .plain .geq q1.1 (.int .i64 0)).bind fun v2 =>
  some (v2, q1.2.1, q1.2.2)
theorem s81 (C : Calling) (L : Body → Body) (t : Tm) (H : Hp) (n : Nat) : bodyK Try.prog C L Try.f81 t H n = S81 C L t H n := by kernel_rfl
theorem c81 (args : List Value) (H : Hp) (n : Nat) : Call Try.prog 81 args H n = S81 (Call Try.prog) Loop (argsT args) H n := (Call_body Try.func81 args H n).trans (s81 ..)
/-! 82: slices.Index[[]byte,byte] -/
noncomputable def S82L0 (C : Calling) (L : Body → Body) : Body := fun t H n =>
  (binK .plain .lss (t 8) (t 7)).bind fun v3 =>
  csel v3
    ((idxA 1 (t 0) (t 8)).bind fun v4 =>
     (ld false 1 v4 H).bind fun v5 =>
     (binK .plain .eql (t 1) v5).bind fun v6 =>
     csel v6
       (some ⟨.ret, put (put (put (put (put (put (put (put (put (put (put t 9 v3) 10 (t 8)) 5 (t 8)) 11 (t 1)) 12 (t 0)) 13 (t 8)) 14 v4) 15 v5) 16 v6) 17 (t 8)) 4 (t 8), H, n + 11⟩)
       ((binK .plain .add (t 8) (.int .i64 1)).bind fun v7 =>
        some ⟨.normal, put (put (put (put (put (put (put (put (put (put (put t 9 v3) 10 (t 8)) 5 (t 8)) 11 (t 1)) 12 (t 0)) 13 (t 8)) 14 v4) 15 v5) 16 v6) 18 v7) 8 v7, H, n + 11⟩))
    (some ⟨(.exit 0), put t 9 v3, H, n + 1⟩)
noncomputable def S82 (C : Calling) (L : Body → Body) (t : Tm) (H : Hp) (n : Nat) : Option (Value × Hp × Nat) :=
  (lenV false (t 0)).bind fun v1 =>
  (L (S82L0 C L) (put (put (put (put t 4 (.int .i64 0)) 6 (t 0)) 7 v1) 8 (.int .i64 0)) H (n + 4)).bind fun (o2 : Out) =>
  let o8 := outOf 0 o2
  thenK o8
    (some (.int .i64 (-1), o8.H, o8.n + 1))
    (finE o8.e
       (some (o8.t 4, o8.H, o8.n)))
theorem s82 (C : Calling) (L : Body → Body) (t : Tm) (H : Hp) (n : Nat) : bodyK Try.prog C L Try.f82 t H n = S82 C L t H n := by kernel_rfl
theorem c82 (args : List Value) (H : Hp) (n : Nat) : Call Try.prog 82 args H n = S82 (Call Try.prog) Loop (argsT args) H n := (Call_body Try.func82 args H n).trans (s82 ..)
end Go.Proofs.Ytdnokdgkccnbnaa.Ax
