/- What the bodies of some functions come to in the abstract machine. -/
import Derived.Test.YtebmbjkikibjfaaProg
import Derived.Test.YtebmbjkikibjfaaAx3
set_option linter.unusedVariables false
namespace Go.Proofs.Ytebmbjkikibjfaa.Ax
open Go
set_option maxRecDepth 100000
/-! 7: laws.FnExactNameOk -/
noncomputable def S7 (C : Calling) (L : Body → Body) (t : Tm) (H : Hp) (n : Nat) : Option (Value × Hp × Nat) :=
  (lenV true (t 0)).bind fun v1 =>
  (binK .plain .gtr v1 (.int .i64 1048576)).bind fun v2 =>
  csel v2
    (some (.bool true, H, n + 5))
    ((C 14 [t 0] H (n + 7)).bind fun q3 =>
     (C 15 [t 0] q3.2.1 (q3.2.2 + 3)).bind fun q4 =>
     (binK .bool .neq q4.1 q3.1).bind fun v5 =>
     csel v5
       (some (.bool false, q4.2.1, q4.2.2 + 4))
       (some (.bool true, q4.2.1, q4.2.2 + 4)))
theorem s7 (C : Calling) (L : Body → Body) (t : Tm) (H : Hp) (n : Nat) : bodyK Try.prog C L Try.f7 t H n = S7 C L t H n := by kernel_rfl
theorem c7 (args : List Value) (H : Hp) (n : Nat) : Call Try.prog 7 args H n = S7 (Call Try.prog) Loop (argsT args) H n := (Call_body Try.func7 args H n).trans (s7 ..)
/-! 14: spec.NameOk -/
noncomputable def S14L0 (C : Calling) (L : Body → Body) : Body := fun t H n =>
  (lenV true (t 0)).bind fun v2 =>
  (binK .plain .lss (t 3) v2).bind fun v3 =>
  csel v3
    ((idxS (t 0) (t 3)).bind fun v4 =>
     (C 21 [v4] H (n + 9)).bind fun q5 =>
     (un .not q5.1).bind fun v6 =>
     csel v6
       (some ⟨.ret, put (put (put (put (put (put (put (put (put (put t 4 (t 3)) 5 (t 0)) 6 v2) 7 v3) 10 (t 0)) 11 (t 3)) 12 v4) 13 q5.1) 14 v6) 2 (.bool false), q5.2.1, q5.2.2 + 1⟩)
       ((binK .plain .add (t 3) (.int .i64 1)).bind fun v7 =>
        some ⟨.normal, put (put (put (put (put (put (put (put (put (put (put (put t 4 (t 3)) 5 (t 0)) 6 v2) 7 v3) 10 (t 0)) 11 (t 3)) 12 v4) 13 q5.1) 14 v6) 8 (t 3)) 9 v7) 3 v7, q5.2.1, q5.2.2 + 3⟩))
    (some ⟨(.exit 0), put (put (put (put t 4 (t 3)) 5 (t 0)) 6 v2) 7 v3, H, n + 4⟩)
noncomputable def S14 (C : Calling) (L : Body → Body) (t : Tm) (H : Hp) (n : Nat) : Option (Value × Hp × Nat) :=
  (L (S14L0 C L) (put (put t 2 (.bool false)) 3 (.int .i64 0)) H (n + 2)).bind fun (o1 : Out) =>
  let o8 := outOf 0 o1
  thenK o8
    ((lenV true (o8.t 0)).bind fun v9 =>
     (C 16 [v9, .int .i64 1, .int .i64 12] o8.H (o8.n + 4)).bind fun q10 =>
     some (q10.1, q10.2.1, q10.2.2))
    (finE o8.e
       (some (o8.t 2, o8.H, o8.n)))
theorem s14 (C : Calling) (L : Body → Body) (t : Tm) (H : Hp) (n : Nat) : bodyK Try.prog C L Try.f14 t H n = S14 C L t H n := by kernel_rfl
theorem c14 (args : List Value) (H : Hp) (n : Nat) : Call Try.prog 14 args H n = S14 (Call Try.prog) Loop (argsT args) H n := (Call_body Try.func14 args H n).trans (s14 ..)
/-! 15: impl.NameOk -/
noncomputable def S15L0 (C : Calling) (L : Body → Body) : Body := fun t H n =>
  (binK .plain .lss (t 10) (t 9)).bind fun v6 =>
  csel v6
    ((idxS (t 0) (t 10)).bind fun v7 =>
     (C 22 [v7] H (n + 8)).bind fun q8 =>
     (un .not q8.1).bind fun v9 =>
     csel v9
       (some ⟨.ret, put (put (put (put (put (put (put (put (put t 11 v6) 12 (t 10)) 3 (t 10)) 13 (t 0)) 14 (t 10)) 15 v7) 16 q8.1) 17 v9) 2 (.bool false), q8.2.1, q8.2.2 + 1⟩)
       ((binK .plain .add (t 10) (.int .i64 1)).bind fun v10 =>
        some ⟨.normal, put (put (put (put (put (put (put (put (put (put t 11 v6) 12 (t 10)) 3 (t 10)) 13 (t 0)) 14 (t 10)) 15 v7) 16 q8.1) 17 v9) 18 v10) 10 v10, q8.2.1, q8.2.2 + 2⟩))
    (some ⟨(.exit 0), put t 11 v6, H, n + 1⟩)
noncomputable def S15 (C : Calling) (L : Body → Body) (t : Tm) (H : Hp) (n : Nat) : Option (Value × Hp × Nat) :=
  (lenV true (t 0)).bind fun v1 =>
  (C 17 [v1, .int .i64 1, .int .i64 12] H (n + 5)).bind fun q2 =>
  (un .not q2.1).bind fun v3 =>
  csel v3
    (some (.bool false, q2.2.1, q2.2.2 + 1))
    ((lenV true (t 0)).bind fun v4 =>
     (L (S15L0 C L) (put (put (put (put (put (put (put (put t 2 (.bool false)) 4 (t 0)) 5 v1) 6 q2.1) 7 v3) 8 (t 0)) 9 v4) 10 (.int .i64 0)) q2.2.1 (q2.2.2 + 3)).bind fun (o5 : Out) =>
     let o11 := outOf 0 o5
     thenK o11
       (some (.bool true, o11.H, o11.n + 1))
       (finE o11.e
          (some (o11.t 2, o11.H, o11.n))))
theorem s15 (C : Calling) (L : Body → Body) (t : Tm) (H : Hp) (n : Nat) : bodyK Try.prog C L Try.f15 t H n = S15 C L t H n := by kernel_rfl
theorem c15 (args : List Value) (H : Hp) (n : Nat) : Call Try.prog 15 args H n = S15 (Call Try.prog) Loop (argsT args) H n := (Call_body Try.func15 args H n).trans (s15 ..)
/-! 16: spec.l1In -/
noncomputable def S16 (C : Calling) (L : Body → Body) (t : Tm) (H : Hp) (n : Nat) : Option (Value × Hp × Nat) :=
  (binK .plain .geq (t 0) (t 1)).bind fun v1 =>
  let t3 : Tm := put (put (put (put (put t 6 (.bool false)) 7 (t 0)) 8 (t 1)) 9 v1) 10 v1
  (gsel v1 true
    ((binK .plain .leq (t3 0) (t3 2)).bind fun v4 =>
     some (put (put (put t3 11 (t3 0)) 12 (t3 2)) 13 v4, H, n + 10))
    (some (put (put (put t3 11 (.tuple #[])) 12 (.tuple #[])) 13 (.tuple #[]), H, n + 10))
  ).bind fun (q2 : R3) =>
  (pickV (q2.1 10) (q2.1 13) (.bool false)).bind fun v5 =>
  some (v5, q2.2.1, q2.2.2)
theorem s16 (C : Calling) (L : Body → Body) (t : Tm) (H : Hp) (n : Nat) : bodyK Try.prog C L Try.f16 t H n = S16 C L t H n := by kernel_rfl
theorem c16 (args : List Value) (H : Hp) (n : Nat) : Call Try.prog 16 args H n = S16 (Call Try.prog) Loop (argsT args) H n := (Call_body Try.func16 args H n).trans (s16 ..)
/-! 17: impl.within -/
noncomputable def S17 (C : Calling) (L : Body → Body) (t : Tm) (H : Hp) (n : Nat) : Option (Value × Hp × Nat) :=
  (binK .plain .geq (t 0) (t 1)).bind fun v1 =>
  let t3 : Tm := put (put (put (put (put t 6 (.bool false)) 7 (t 0)) 8 (t 1)) 9 v1) 10 v1
  (gsel v1 true
    ((binK .plain .leq (t3 0) (t3 2)).bind fun v4 =>
     some (put (put (put t3 11 (t3 0)) 12 (t3 2)) 13 v4, H, n + 10))
    (some (put (put (put t3 11 (.tuple #[])) 12 (.tuple #[])) 13 (.tuple #[]), H, n + 10))
  ).bind fun (q2 : R3) =>
  (pickV (q2.1 10) (q2.1 13) (.bool false)).bind fun v5 =>
  some (v5, q2.2.1, q2.2.2)
theorem s17 (C : Calling) (L : Body → Body) (t : Tm) (H : Hp) (n : Nat) : bodyK Try.prog C L Try.f17 t H n = S17 C L t H n := by kernel_rfl
theorem c17 (args : List Value) (H : Hp) (n : Nat) : Call Try.prog 17 args H n = S17 (Call Try.prog) Loop (argsT args) H n := (Call_body Try.func17 args H n).trans (s17 ..)
/-! 21: spec.l2NameByte -/
noncomputable def S21 (C : Calling) (L : Body → Body) (t : Tm) (H : Hp) (n : Nat) : Option (Value × Hp × Nat) :=
  (binK .plain .geq (t 0) (.int .u8 97)).bind fun v1 =>
  let t3 : Tm := put (put (put (put t 2 (.bool false)) 3 (t 0)) 4 v1) 5 v1
  (gsel v1 true
    ((binK .plain .leq (t3 0) (.int .u8 122)).bind fun v4 =>
     some (put (put t3 6 (t3 0)) 7 v4, H, n + 40))
    (some (put (put t3 6 (.tuple #[])) 7 (.tuple #[]), H, n + 40))
  ).bind fun (q2 : R3) =>
  (pickV (q2.1 5) (q2.1 7) (.bool false)).bind fun v5 =>
  let t7 : Tm := put (put q2.1 8 v5) 9 v5
  (gsel v5 false
    ((binK .plain .eql (t7 0) (.int .u8 43)).bind fun v8 =>
     some (put (put t7 10 (t7 0)) 11 v8, q2.2.1, q2.2.2))
    (some (put (put t7 10 (.tuple #[])) 11 (.tuple #[]), q2.2.1, q2.2.2))
  ).bind fun (q6 : R3) =>
  (pickV (q6.1 9) (.bool true) (q6.1 11)).bind fun v9 =>
  let t11 : Tm := put (put q6.1 12 v9) 13 v9
  (gsel v9 false
    ((binK .plain .eql (t11 0) (.int .u8 45)).bind fun v12 =>
     some (put (put t11 14 (t11 0)) 15 v12, q6.2.1, q6.2.2))
    (some (put (put t11 14 (.tuple #[])) 15 (.tuple #[]), q6.2.1, q6.2.2))
  ).bind fun (q10 : R3) =>
  (pickV (q10.1 13) (.bool true) (q10.1 15)).bind fun v13 =>
  let t15 : Tm := put (put q10.1 16 v13) 17 v13
  (gsel v13 false
    ((binK .plain .eql (t15 0) (.int .u8 42)).bind fun v16 =>
     some (put (put t15 18 (t15 0)) 19 v16, q10.2.1, q10.2.2))
    (some (put (put t15 18 (.tuple #[])) 19 (.tuple #[]), q10.2.1, q10.2.2))
  ).bind fun (q14 : R3) =>
  (pickV (q14.1 17) (.bool true) (q14.1 19)).bind fun v17 =>
  let t19 : Tm := put (put q14.1 20 v17) 21 v17
  (gsel v17 false
    ((binK .plain .eql (t19 0) (.int .u8 60)).bind fun v20 =>
     some (put (put t19 22 (t19 0)) 23 v20, q14.2.1, q14.2.2))
    (some (put (put t19 22 (.tuple #[])) 23 (.tuple #[]), q14.2.1, q14.2.2))
  ).bind fun (q18 : R3) =>
  (pickV (q18.1 21) (.bool true) (q18.1 23)).bind fun v21 =>
  let t23 : Tm := put (put q18.1 24 v21) 25 v21
  (gsel v21 false
    ((binK .plain .eql (t23 0) (.int .u8 61)).bind fun v24 =>
     some (put (put t23 26 (t23 0)) 27 v24, q18.2.1, q18.2.2))
    (some (put (put t23 26 (.tuple #[])) 27 (.tuple #[]), q18.2.1, q18.2.2))
  ).bind fun (q22 : R3) =>
  (pickV (q22.1 25) (.bool true) (q22.1 27)).bind fun v25 =>
  let t27 : Tm := put (put q22.1 28 v25) 29 v25
  (gsel v25 false
    ((binK .plain .eql (t27 0) (.int .u8 63)).bind fun v28 =>
     some (put (put t27 30 (t27 0)) 31 v28, q22.2.1, q22.2.2))
    (some (put (put t27 30 (.tuple #[])) 31 (.tuple #[]), q22.2.1, q22.2.2))
  ).bind fun (q26 : R3) =>
  (pickV (q26.1 29) (.bool true) (q26.1 31)).bind fun v29 =>
  let t31 : Tm := put (put q26.1 32 v29) 33 v29
  (gsel v29 false
    ((binK .plain .eql (t31 0) (.int .u8 33)).bind fun v32 =>
     some (put (put t31 34 (t31 0)) 35 v32, q26.2.1, q26.2.2))
    (some (put (put t31 34 (.tuple #[])) 35 (.tuple #[]), q26.2.1, q26.2.2))
  ).bind fun (q30 : R3) =>
  (pickV (q30.1 33) (.bool true) (q30.1 35)).bind fun v33 =>
  let t35 : Tm := put (put q30.1 36 v33) 37 v33
  (gsel v33 false
    ((binK .plain .eql (t35 0) (.int .u8 47)).bind fun v36 =>
     some (put (put t35 38 (t35 0)) 39 v36, q30.2.1, q30.2.2))
    (some (put (put t35 38 (.tuple #[])) 39 (.tuple #[]), q30.2.1, q30.2.2))
  ).bind fun (q34 : R3) =>
  (pickV (q34.1 37) (.bool true) (q34.1 39)).bind fun v37 =>
  some (v37, q34.2.1, q34.2.2)
theorem s21 (C : Calling) (L : Body → Body) (t : Tm) (H : Hp) (n : Nat) : bodyK Try.prog C L Try.f21 t H n = S21 C L t H n := by kernel_rfl
theorem c21 (args : List Value) (H : Hp) (n : Nat) : Call Try.prog 21 args H n = S21 (Call Try.prog) Loop (argsT args) H n := (Call_body Try.func21 args H n).trans (s21 ..)
/-! 22: impl.isNameByte -/
noncomputable def S22 (C : Calling) (L : Body → Body) (t : Tm) (H : Hp) (n : Nat) : Option (Value × Hp × Nat) :=
  (binK .plain .geq (t 0) (.int .u8 97)).bind fun v1 =>
  let t3 : Tm := put (put (put (put t 2 (.bool false)) 3 (t 0)) 4 v1) 5 v1
  (gsel v1 true
    ((binK .plain .leq (t3 0) (.int .u8 122)).bind fun v4 =>
     some (put (put t3 6 (t3 0)) 7 v4, H, n + 14))
    (some (put (put t3 6 (.tuple #[])) 7 (.tuple #[]), H, n + 14))
  ).bind fun (q2 : R3) =>
  (pickV (q2.1 5) (q2.1 7) (.bool false)).bind fun v5 =>
  let t7 : Tm := put (put q2.1 8 v5) 9 v5
  (gsel v5 false
    ((bsl (n + 8) 1 8 [.int .u8 0] [(0, 1, .int .u8 43), (1, 1, .int .u8 45), (2, 1, .int .u8 42), (3, 1, .int .u8 60), (4, 1, .int .u8 61), (5, 1, .int .u8 63), (6, 1, .int .u8 33), (7, 1, .int .u8 47)] q2.2.1).bind fun p8 =>
     (conv .mark (n + 9) p8.1 p8.2).bind fun p9 =>
     (C 23 [p9.1, t7 0] p9.2 (q2.2.2)).bind fun q10 =>
     some (put (put (put (put t7 10 p8.1) 11 p9.1) 12 (t7 0)) 13 q10.1, q10.2.1, q10.2.2))
    (some (put (put (put (put t7 10 (.tuple #[])) 11 (.tuple #[])) 12 (.tuple #[])) 13 (.tuple #[]), q2.2.1, q2.2.2))
  ).bind fun (q6 : R3) =>
  (pickV (q6.1 9) (.bool true) (q6.1 13)).bind fun v11 =>
  some (v11, q6.2.1, q6.2.2)
theorem s22 (C : Calling) (L : Body → Body) (t : Tm) (H : Hp) (n : Nat) : bodyK Try.prog C L Try.f22 t H n = S22 C L t H n := by kernel_rfl
theorem c22 (args : List Value) (H : Hp) (n : Nat) : Call Try.prog 22 args H n = S22 (Call Try.prog) Loop (argsT args) H n := (Call_body Try.func22 args H n).trans (s22 ..)
/-! 23: slices.Contains[[]byte,byte] -/
noncomputable def S23 (C : Calling) (L : Body → Body) (t : Tm) (H : Hp) (n : Nat) : Option (Value × Hp × Nat) :=
  (C 24 [t 0, t 1] H (n + 6)).bind fun q1 =>
  (binK .plain .geq q1.1 (.int .i64 0)).bind fun v2 =>
  some (v2, q1.2.1, q1.2.2)
theorem s23 (C : Calling) (L : Body → Body) (t : Tm) (H : Hp) (n : Nat) : bodyK Try.prog C L Try.f23 t H n = S23 C L t H n := by kernel_rfl
theorem c23 (args : List Value) (H : Hp) (n : Nat) : Call Try.prog 23 args H n = S23 (Call Try.prog) Loop (argsT args) H n := (Call_body Try.func23 args H n).trans (s23 ..)
/-! 24: slices.Index[[]byte,byte] -/
noncomputable def S24L0 (C : Calling) (L : Body → Body) : Body := fun t H n =>
  (binK .plain .lss (t 8) (t 7)).bind fun v3 =>
  csel v3
    ((idxA 1 (t 0) (t 8)).bind fun v4 =>
     (ld false 1 v4 H).bind fun v5 =>
     (binK .plain .eql (t 1) v5).bind fun v6 =>
     csel v6
       (some ⟨.ret, put (put (put (put (put (put (put (put (put (put (put t 9 v3) 10 (t 8)) 5 (t 8)) 11 (t 1)) 12 (t 0)) 13 (t 8)) 14 v4) 15 v5) 16 v6) 17 (t 8)) 4 (t 8), H, n + 11⟩)
       ((binK .plain .add (t 8) (.int .i64 1)).bind fun v7 =>
        some ⟨.normal, put (put (put (put (put (put (put (put (put (put (put t 9 v3) 10 (t 8)) 5 (t 8)) 11 (t 1)) 12 (t 0)) 13 (t 8)) 14 v4) 15 v5) 16 v6) 18 v7) 8 v7, H, n + 11⟩))
    (some ⟨(.exit 0), put t 9 v3, H, n + 1⟩)
noncomputable def S24 (C : Calling) (L : Body → Body) (t : Tm) (H : Hp) (n : Nat) : Option (Value × Hp × Nat) :=
  (lenV false (t 0)).bind fun v1 =>
  (L (S24L0 C L) (put (put (put (put t 4 (.int .i64 0)) 6 (t 0)) 7 v1) 8 (.int .i64 0)) H (n + 4)).bind fun (o2 : Out) =>
  let o8 := outOf 0 o2
  thenK o8
    (some (.int .i64 (-1), o8.H, o8.n + 1))
    (finE o8.e
       (some (o8.t 4, o8.H, o8.n)))
theorem s24 (C : Calling) (L : Body → Body) (t : Tm) (H : Hp) (n : Nat) : bodyK Try.prog C L Try.f24 t H n = S24 C L t H n := by kernel_rfl
theorem c24 (args : List Value) (H : Hp) (n : Nat) : Call Try.prog 24 args H n = S24 (Call Try.prog) Loop (argsT args) H n := (Call_body Try.func24 args H n).trans (s24 ..)
end Go.Proofs.Ytebmbjkikibjfaa.Ax
