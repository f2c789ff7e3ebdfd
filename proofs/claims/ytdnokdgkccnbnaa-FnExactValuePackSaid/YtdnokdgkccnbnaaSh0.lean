/- What the bodies of some functions of the program come to in the abstract machine. -/
import Derived.Test.YtdnokdgkccnbnaaProg
import Derived.Test.YtdnokdgkccnbnaaAx3
set_option linter.unusedVariables false
namespace Go.Proofs.Ytdnokdgkccnbnaa.Ax
open Go
set_option maxRecDepth 100000
/-! 4: laws.FnExactValuePack -/
noncomputable def S4 (C : Calling) (L : Body → Body) (t : Tm) (H : Hp) (n : Nat) : Option (Value × Hp × Nat) :=
  (vcells (t 0)).bind fun c2 =>
  let H1 := H.set (n) (some (.row c2 0 true))
  (ld true 1 (ptr (n) 0) H1).bind fun v3 =>
  (C 7 [v3, .int .i64 1048576] H1 (n + 7)).bind fun q4 =>
  (binK .plain .lss q4.1 (.int .i64 0)).bind fun v5 =>
  csel v5
    (some (.bool true, q4.2.1, q4.2.2 + 3))
    ((ld true 1 (ptr (n) 0) q4.2.1).bind fun v6 =>
     (C 9 [v6] q4.2.1 (q4.2.2 + 11)).bind fun q7 =>
     (C 12 [q7.1, t 1] q7.2.1 (q7.2.2)).bind fun q8 =>
     (ext 0 q8.1).bind fun v9 =>
     (ext 1 q8.1).bind fun v10 =>
     (ld true 1 (ptr (n) 0) q8.2.1).bind fun v11 =>
     (C 9 [v11] q8.2.1 (q8.2.2 + 4)).bind fun q12 =>
     let H13 := q12.2.1.set (q8.2.2 + 2) (some (.row [nilS] 0 true))
     (st true 1 (ptr (q8.2.2 + 2) 0) q12.1 H13).bind fun H14 =>
     (ld true 1 (ptr (q8.2.2 + 2) 0) H14).bind fun v15 =>
     (C 13 [v15, t 1] H14 (q12.2.2 + 8)).bind fun q16 =>
     (ext 0 q16.1).bind fun v17 =>
     (ext 1 q16.1).bind fun v18 =>
     (binK .plain .neq v17 v9).bind fun v19 =>
     let t21 : Tm := put (put (put (put (put (put (put (put (put (put (put (put (put (put (put (put (put (put (put (put (put (put (put (put (put (put (put (put (put (put (put (put (put t 2 (ptr (n) 0)) 4 (.bool false)) 5 (.int .i64 1048576)) 11 v3) 12 (.int .i64 1048576)) 13 q4.1) 5 q4.1) 14 q4.1) 15 v5) 17 v6) 18 q7.1) 19 (t 1)) 20 q8.1) 16 q8.1) 21 v9) 22 v10) 6 v9) 7 v10) 23 v11) 24 q12.1) 8 (ptr (q8.2.2 + 2) 0)) 26 v15) 27 (t 1)) 28 q16.1) 25 q16.1) 29 v17) 30 v18) 9 v17) 10 v18) 31 v17) 32 v9) 33 v19) 34 v19
     (gsel v19 false
       ((binK .bool .neq v18 v10).bind fun v22 =>
        some (put (put (put t21 35 v18) 36 v10) 37 v22, q16.2.1, q16.2.2 + 8))
       (some (put (put (put t21 35 (.tuple #[])) 36 (.tuple #[])) 37 (.tuple #[]), q16.2.1, q16.2.2 + 8))
     ).bind fun (q20 : R3) =>
     (pickV (q20.1 34) (.bool true) (q20.1 37)).bind fun v23 =>
     csel v23
       (some (.bool false, q20.2.1, q20.2.2 + 1))
       ((ld true 1 (q20.1 8) q20.2.1).bind fun v24 =>
        (ld true 1 (q20.1 2) q20.2.1).bind fun v25 =>
        (C 9 [v25] q20.2.1 (q20.2.2 + 5)).bind fun q26 =>
        ask (ld true 1 (q20.1 8) q26.2.1 = some v24) <|
        (C 11 [v24, q26.1] q26.2.1 (q26.2.2)).bind fun q27 =>
        (un .not q27.1).bind fun v28 =>
        csel v28
          (some (.bool false, q27.2.1, q27.2.2 + 1))
          (some (.bool true, q27.2.1, q27.2.2 + 1))))
theorem s4 (C : Calling) (L : Body → Body) (t : Tm) (H : Hp) (n : Nat) : bodyK Try.prog C L Try.f4 t H n = S4 C L t H n := by kernel_rfl
theorem c4 (args : List Value) (H : Hp) (n : Nat) : Call Try.prog 4 args H n = S4 (Call Try.prog) Loop (argsT args) H n := (Call_body Try.func4 args H n).trans (s4 ..)
/-! 7: laws.szPool -/
noncomputable def S7 (C : Calling) (L : Body → Body) (t : Tm) (H : Hp) (n : Nat) : Option (Value × Hp × Nat) :=
  (vcells (t 0)).bind fun c2 =>
  let H1 := H.set (n) (some (.row c2 0 true))
  (fieldA 0 (ptr (n) 0)).bind fun v3 =>
  (ld false 1 v3 H1).bind fun v4 =>
  (C 23 [v4, t 1] H1 (n + 7)).bind fun q5 =>
  (binK .plain .lss q5.1 (.int .i64 0)).bind fun v6 =>
  csel v6
    (some (.int .i64 (-1), q5.2.1, q5.2.2 + 3))
    (some (q5.1, q5.2.1, q5.2.2 + 4))
theorem s7 (C : Calling) (L : Body → Body) (t : Tm) (H : Hp) (n : Nat) : bodyK Try.prog C L Try.f7 t H n = S7 C L t H n := by kernel_rfl
theorem c7 (args : List Value) (H : Hp) (n : Nat) : Call Try.prog 7 args H n = S7 (Call Try.prog) Loop (argsT args) H n := (Call_body Try.func7 args H n).trans (s7 ..)
/-! 9: laws.toPool -/
noncomputable def S9 (C : Calling) (L : Body → Body) (t : Tm) (H : Hp) (n : Nat) : Option (Value × Hp × Nat) :=
  (vcells (t 0)).bind fun c2 =>
  let H1 := H.set (n) (some (.row c2 0 true))
  let H3 := H1.set (n + 1) (some (.row [nilS] 0 true))
  let H4 := H3.set (n + 2) (some (.row [nilS] 0 true))
  (fieldA 0 (ptr (n) 0)).bind fun v5 =>
  (ld false 1 v5 H4).bind fun v6 =>
  (C 27 [v6] H4 (n + 8)).bind fun q7 =>
  (fieldA 0 (ptr (n + 2) 0)).bind fun v8 =>
  (st false 1 v8 q7.1 q7.2.1).bind fun H9 =>
  (ld true 1 (ptr (n + 2) 0) H9).bind fun v10 =>
  (st true 1 (ptr (n + 1) 0) v10 H9).bind fun H11 =>
  (ld true 1 (ptr (n + 1) 0) H11).bind fun v12 =>
  some (v12, H11, q7.2.2 + 2)
theorem s9 (C : Calling) (L : Body → Body) (t : Tm) (H : Hp) (n : Nat) : bodyK Try.prog C L Try.f9 t H n = S9 C L t H n := by kernel_rfl
theorem c9 (args : List Value) (H : Hp) (n : Nat) : Call Try.prog 9 args H n = S9 (Call Try.prog) Loop (argsT args) H n := (Call_body Try.func9 args H n).trans (s9 ..)
/-! 11: laws.eqPool -/
noncomputable def S11 (C : Calling) (L : Body → Body) (t : Tm) (H : Hp) (n : Nat) : Option (Value × Hp × Nat) :=
  (vcells (t 0)).bind fun c2 =>
  let H1 := H.set (n) (some (.row c2 0 true))
  (vcells (t 1)).bind fun c4 =>
  let H3 := H1.set (n + 1) (some (.row c4 0 true))
  (fieldA 0 (ptr (n) 0)).bind fun v5 =>
  (ld false 1 v5 H3).bind fun v6 =>
  (fieldA 0 (ptr (n + 1) 0)).bind fun v7 =>
  (ld false 1 v7 H3).bind fun v8 =>
  (C 31 [v6, v8] H3 (n + 9)).bind fun q9 =>
  (un .not q9.1).bind fun v10 =>
  csel v10
    (some (.bool false, q9.2.1, q9.2.2 + 1))
    (some (.bool true, q9.2.1, q9.2.2 + 1))
theorem s11 (C : Calling) (L : Body → Body) (t : Tm) (H : Hp) (n : Nat) : bodyK Try.prog C L Try.f11 t H n = S11 C L t H n := by kernel_rfl
theorem c11 (args : List Value) (H : Hp) (n : Nat) : Call Try.prog 11 args H n = S11 (Call Try.prog) Loop (argsT args) H n := (Call_body Try.func11 args H n).trans (s11 ..)
/-! 12: spec.ValuePack -/
noncomputable def S12 (C : Calling) (L : Body → Body) (t : Tm) (H : Hp) (n : Nat) : Option (Value × Hp × Nat) :=
  (vcells (t 0)).bind fun c2 =>
  let H1 := H.set (n) (some (.row c2 0 true))
  (ld true 1 (ptr (n) 0) H1).bind fun v3 =>
  (C 24 [v3] H1 (n + 12)).bind fun q4 =>
  (un .not q4.1).bind fun v5 =>
  let t7 : Tm := put (put (put (put (put (put (put t 2 (ptr (n) 0)) 4 (.string ⟨#[]⟩)) 5 (.bool false)) 8 v3) 9 q4.1) 10 v5) 11 v5
  (gsel v5 false
    ((ld true 1 (ptr (n) 0) q4.2.1).bind fun v8 =>
     (C 25 [v8, t7 1] q4.2.1 (q4.2.2)).bind fun q9 =>
     (un .not q9.1).bind fun v10 =>
     some (put (put (put (put t7 12 v8) 13 (t7 1)) 14 q9.1) 15 v10, q9.2.1, q9.2.2))
    (some (put (put (put (put t7 12 (.tuple #[])) 13 (.tuple #[])) 14 (.tuple #[])) 15 (.tuple #[]), q4.2.1, q4.2.2))
  ).bind fun (q6 : R3) =>
  (pickV (q6.1 11) (.bool true) (q6.1 15)).bind fun v11 =>
  csel v11
    (iteK ([.string ⟨#[]⟩, .bool false].all notTup) <|
     some (.tuple ⟨[.string ⟨#[]⟩, .bool false]⟩, q6.2.1, q6.2.2 + 2))
    ((ld true 1 (q6.1 2) q6.2.1).bind fun v12 =>
     (bsl (q6.2.2 + 2) 1 1 [.int .i64 0] [(0, 1, q6.1 1)] q6.2.1).bind fun p13 =>
     (C 32 [v12, p13.1] p13.2 (q6.2.2 + 10)).bind fun q14 =>
     (ext 0 q14.1).bind fun v15 =>
     (ext 1 q14.1).bind fun v16 =>
     let H17 := q14.2.1.set (q6.2.2 + 7) (some (.row [nilS] 0 true))
     (st true 1 (ptr (q6.2.2 + 7) 0) v15 H17).bind fun H18 =>
     (ld true 1 (ptr (q6.2.2 + 7) 0) H18).bind fun v19 =>
     (C 33 [v19] H18 (q14.2.2 + 5)).bind fun q20 =>
     (conv .bytesToStr (q14.2.2 + 2) q20.1 q20.2.1).bind fun p21 =>
     iteK ([p21.1, .bool true].all notTup) <|
     some (.tuple ⟨[p21.1, .bool true]⟩, p21.2, q20.2.2))
theorem s12 (C : Calling) (L : Body → Body) (t : Tm) (H : Hp) (n : Nat) : bodyK Try.prog C L Try.f12 t H n = S12 C L t H n := by kernel_rfl
theorem c12 (args : List Value) (H : Hp) (n : Nat) : Call Try.prog 12 args H n = S12 (Call Try.prog) Loop (argsT args) H n := (Call_body Try.func12 args H n).trans (s12 ..)
/-! 13: impl.ValuePack -/
noncomputable def S13 (C : Calling) (L : Body → Body) (t : Tm) (H : Hp) (n : Nat) : Option (Value × Hp × Nat) :=
  (vcells (t 0)).bind fun c2 =>
  let H1 := H.set (n) (some (.row c2 0 true))
  (ld true 1 (ptr (n) 0) H1).bind fun v3 =>
  (C 22 [v3] H1 (n + 12)).bind fun q4 =>
  (un .not q4.1).bind fun v5 =>
  let t7 : Tm := put (put (put (put (put (put (put t 2 (ptr (n) 0)) 4 (.string ⟨#[]⟩)) 5 (.bool false)) 8 v3) 9 q4.1) 10 v5) 11 v5
  (gsel v5 false
    ((ld true 1 (ptr (n) 0) q4.2.1).bind fun v8 =>
     (C 28 [v8, t7 1] q4.2.1 (q4.2.2)).bind fun q9 =>
     (un .not q9.1).bind fun v10 =>
     some (put (put (put (put t7 12 v8) 13 (t7 1)) 14 q9.1) 15 v10, q9.2.1, q9.2.2))
    (some (put (put (put (put t7 12 (.tuple #[])) 13 (.tuple #[])) 14 (.tuple #[])) 15 (.tuple #[]), q4.2.1, q4.2.2))
  ).bind fun (q6 : R3) =>
  (pickV (q6.1 11) (.bool true) (q6.1 15)).bind fun v11 =>
  csel v11
    (iteK ([.string ⟨#[]⟩, .bool false].all notTup) <|
     some (.tuple ⟨[.string ⟨#[]⟩, .bool false]⟩, q6.2.1, q6.2.2 + 2))
    ((ld true 1 (q6.1 2) q6.2.1).bind fun v12 =>
     (bsl (q6.2.2 + 2) 1 1 [.int .i64 0] [(0, 1, q6.1 1)] q6.2.1).bind fun p13 =>
     (C 34 [v12, p13.1] p13.2 (q6.2.2 + 10)).bind fun q14 =>
     (ext 0 q14.1).bind fun v15 =>
     (ext 1 q14.1).bind fun v16 =>
     let H17 := q14.2.1.set (q6.2.2 + 7) (some (.row [nilS] 0 true))
     (st true 1 (ptr (q6.2.2 + 7) 0) v15 H17).bind fun H18 =>
     (ld true 1 (ptr (q6.2.2 + 7) 0) H18).bind fun v19 =>
     (C 35 [v19] H18 (q14.2.2 + 5)).bind fun q20 =>
     (conv .bytesToStr (q14.2.2 + 2) q20.1 q20.2.1).bind fun p21 =>
     iteK ([p21.1, .bool true].all notTup) <|
     some (.tuple ⟨[p21.1, .bool true]⟩, p21.2, q20.2.2))
theorem s13 (C : Calling) (L : Body → Body) (t : Tm) (H : Hp) (n : Nat) : bodyK Try.prog C L Try.f13 t H n = S13 C L t H n := by kernel_rfl
theorem c13 (args : List Value) (H : Hp) (n : Nat) : Call Try.prog 13 args H n = S13 (Call Try.prog) Loop (argsT args) H n := (Call_body Try.func13 args H n).trans (s13 ..)
/-! 22: impl.PoolOk -/
noncomputable def S22L0 (C : Calling) (L : Body → Body) : Body := fun t H n =>
  (binK .plain .lss (t 8) (t 7)).bind fun v7 =>
  csel v7
    ((idxA 5 (t 6) (t 8)).bind fun v8 =>
     (ld true 5 v8 H).bind fun v9 =>
     let H10 := H.set (n + 4) (some (.row [.int .i64 0, .int .i64 0, .string ⟨#[]⟩, .int .i64 0, .int .i64 0] 0 true))
     (st true 5 (ptr (n + 4) 0) v9 H10).bind fun H11 =>
     (ld true 5 (ptr (n + 4) 0) H11).bind fun v12 =>
     (C 48 [v12, t 8] H11 (n + 11)).bind fun q13 =>
     (un .not q13.1).bind fun v14 =>
     csel v14
       (some ⟨.ret, put (put (put (put (put (put (put (put (put (put (put t 9 v7) 10 (t 8)) 11 v8) 12 v9) 4 (ptr (n + 4) 0)) 3 (t 8)) 13 v12) 14 (t 8)) 15 q13.1) 16 v14) 2 (.bool false), q13.2.1, q13.2.2 + 1⟩)
       ((binK .plain .add (t 8) (.int .i64 1)).bind fun v15 =>
        some ⟨.normal, put (put (put (put (put (put (put (put (put (put (put (put t 9 v7) 10 (t 8)) 11 v8) 12 v9) 4 (ptr (n + 4) 0)) 3 (t 8)) 13 v12) 14 (t 8)) 15 q13.1) 16 v14) 17 v15) 8 v15, q13.2.1, q13.2.2 + 2⟩))
    (some ⟨(.exit 0), put t 9 v7, H, n + 1⟩)
noncomputable def S22 (C : Calling) (L : Body → Body) (t : Tm) (H : Hp) (n : Nat) : Option (Value × Hp × Nat) :=
  (vcells (t 0)).bind fun c2 =>
  let H1 := H.set (n) (some (.row c2 0 true))
  (fieldA 0 (ptr (n) 0)).bind fun v3 =>
  (ld false 1 v3 H1).bind fun v4 =>
  (lenV false v4).bind fun v5 =>
  (L (S22L0 C L) (put (put (put (put (put (put t 1 (ptr (n) 0)) 2 (.bool false)) 5 v3) 6 v4) 7 v5) 8 (.int .i64 0)) H1 (n + 6)).bind fun (o6 : Out) =>
  let o16 := outOf 0 o6
  thenK o16
    ((fieldA 0 (o16.t 1)).bind fun v17 =>
     (ld false 1 v17 o16.H).bind fun v18 =>
     (lenV false v18).bind fun v19 =>
     (binK .plain .leq v19 (.int .i64 3000)).bind fun v20 =>
     some (v20, o16.H, o16.n + 5))
    (finE o16.e
       (some (o16.t 2, o16.H, o16.n)))
theorem s22 (C : Calling) (L : Body → Body) (t : Tm) (H : Hp) (n : Nat) : bodyK Try.prog C L Try.f22 t H n = S22 C L t H n := by kernel_rfl
theorem c22 (args : List Value) (H : Hp) (n : Nat) : Call Try.prog 22 args H n = S22 (Call Try.prog) Loop (argsT args) H n := (Call_body Try.func22 args H n).trans (s22 ..)
/-! 23: laws.szNodeS -/
noncomputable def S23L0 (C : Calling) (L : Body → Body) : Body := fun t H n =>
  (lenV false (t 0)).bind fun v5 =>
  (binK .plain .lss (t 5) v5).bind fun v6 =>
  csel v6
    ((idxA 5 (t 0) (t 5)).bind fun v7 =>
     (ld true 5 v7 H).bind fun v8 =>
     (C 49 [v8, t 1] H (n + 11)).bind fun q9 =>
     (binK .plain .lss q9.1 (.int .i64 0)).bind fun v10 =>
     csel v10
       (some ⟨.ret, put (put (put (put (put (put (put (put (put (put (put (put (put (put t 12 (t 5)) 13 (t 0)) 14 v5) 15 v6) 18 (t 0)) 19 (t 5)) 20 v7) 21 v8) 22 (t 1)) 23 q9.1) 1 q9.1) 24 q9.1) 25 v10) 4 (.int .i64 (-1)), q9.2.1, q9.2.2 + 3⟩)
       ((binK .plain .add (t 5) (.int .i64 1)).bind fun v11 =>
        some ⟨.normal, put (put (put (put (put (put (put (put (put (put (put (put (put (put (put (put t 12 (t 5)) 13 (t 0)) 14 v5) 15 v6) 18 (t 0)) 19 (t 5)) 20 v7) 21 v8) 22 (t 1)) 23 q9.1) 1 q9.1) 24 q9.1) 25 v10) 16 (t 5)) 17 v11) 5 v11, q9.2.1, q9.2.2 + 5⟩))
    (some ⟨(.exit 0), put (put (put (put t 12 (t 5)) 13 (t 0)) 14 v5) 15 v6, H, n + 4⟩)
noncomputable def S23 (C : Calling) (L : Body → Body) (t : Tm) (H : Hp) (n : Nat) : Option (Value × Hp × Nat) :=
  (lenV false (t 0)).bind fun v1 =>
  (binK .plain .sub (t 1) v1).bind fun v2 =>
  (binK .plain .lss v2 (.int .i64 0)).bind fun v3 =>
  csel v3
    (some (.int .i64 (-1), H, n + 9))
    ((L (S23L0 C L) (put (put (put (put (put (put (put (put (put t 4 (.int .i64 0)) 6 (t 1)) 7 (t 0)) 8 v1) 9 v2) 1 v2) 10 v2) 11 v3) 5 (.int .i64 0)) H (n + 9)).bind fun (o4 : Out) =>
     let o12 := outOf 0 o4
     thenK o12
       (some (o12.t 1, o12.H, o12.n + 2))
       (finE o12.e
          (some (o12.t 4, o12.H, o12.n))))
theorem s23 (C : Calling) (L : Body → Body) (t : Tm) (H : Hp) (n : Nat) : bodyK Try.prog C L Try.f23 t H n = S23 C L t H n := by kernel_rfl
theorem c23 (args : List Value) (H : Hp) (n : Nat) : Call Try.prog 23 args H n = S23 (Call Try.prog) Loop (argsT args) H n := (Call_body Try.func23 args H n).trans (s23 ..)
/-! 24: spec.PoolOk -/
noncomputable def S24L0 (C : Calling) (L : Body → Body) : Body := fun t H n =>
  (fieldA 0 (t 1)).bind fun v4 =>
  (ld false 1 v4 H).bind fun v5 =>
  (lenV false v5).bind fun v6 =>
  (binK .plain .lss (t 3) v6).bind fun v7 =>
  csel v7
    ((fieldA 0 (t 1)).bind fun v8 =>
     (ld false 1 v8 H).bind fun v9 =>
     (idxA 5 v9 (t 3)).bind fun v10 =>
     (ld true 5 v10 H).bind fun v11 =>
     (C 50 [v11, t 3] H (n + 13)).bind fun q12 =>
     (un .not q12.1).bind fun v13 =>
     csel v13
       (some ⟨.ret, put (put (put (put (put (put (put (put (put (put (put (put (put (put t 4 (t 3)) 5 v4) 6 v5) 7 v6) 8 v7) 11 v8) 12 v9) 13 (t 3)) 14 v10) 15 v11) 16 (t 3)) 17 q12.1) 18 v13) 2 (.bool false), q12.2.1, q12.2.2 + 1⟩)
       ((binK .plain .add (t 3) (.int .i64 1)).bind fun v14 =>
        some ⟨.normal, put (put (put (put (put (put (put (put (put (put (put (put (put (put (put (put t 4 (t 3)) 5 v4) 6 v5) 7 v6) 8 v7) 11 v8) 12 v9) 13 (t 3)) 14 v10) 15 v11) 16 (t 3)) 17 q12.1) 18 v13) 9 (t 3)) 10 v14) 3 v14, q12.2.1, q12.2.2 + 3⟩))
    (some ⟨(.exit 0), put (put (put (put (put t 4 (t 3)) 5 v4) 6 v5) 7 v6) 8 v7, H, n + 5⟩)
noncomputable def S24 (C : Calling) (L : Body → Body) (t : Tm) (H : Hp) (n : Nat) : Option (Value × Hp × Nat) :=
  (vcells (t 0)).bind fun c2 =>
  let H1 := H.set (n) (some (.row c2 0 true))
  (L (S24L0 C L) (put (put (put t 1 (ptr (n) 0)) 2 (.bool false)) 3 (.int .i64 0)) H1 (n + 3)).bind fun (o3 : Out) =>
  let o15 := outOf 0 o3
  thenK o15
    ((fieldA 0 (o15.t 1)).bind fun v16 =>
     (ld false 1 v16 o15.H).bind fun v17 =>
     (lenV false v17).bind fun v18 =>
     (binK .plain .leq v18 (.int .i64 3000)).bind fun v19 =>
     some (v19, o15.H, o15.n + 5))
    (finE o15.e
       (some (o15.t 2, o15.H, o15.n)))
theorem s24 (C : Calling) (L : Body → Body) (t : Tm) (H : Hp) (n : Nat) : bodyK Try.prog C L Try.f24 t H n = S24 C L t H n := by kernel_rfl
theorem c24 (args : List Value) (H : Hp) (n : Nat) : Call Try.prog 24 args H n = S24 (Call Try.prog) Loop (argsT args) H n := (Call_body Try.func24 args H n).trans (s24 ..)
/-! 25: spec.l2Has -/
noncomputable def S25 (C : Calling) (L : Body → Body) (t : Tm) (H : Hp) (n : Nat) : Option (Value × Hp × Nat) :=
  (vcells (t 0)).bind fun c2 =>
  let H1 := H.set (n) (some (.row c2 0 true))
  (fieldA 0 (ptr (n) 0)).bind fun v3 =>
  (ld false 1 v3 H1).bind fun v4 =>
  (lenV false v4).bind fun v5 =>
  (binK .plain .sub v5 (.int .i64 1)).bind fun v6 =>
  (C 51 [t 1, .int .i64 0, v6] H1 (n + 9)).bind fun q7 =>
  some (q7.1, q7.2.1, q7.2.2)
theorem s25 (C : Calling) (L : Body → Body) (t : Tm) (H : Hp) (n : Nat) : bodyK Try.prog C L Try.f25 t H n = S25 C L t H n := by kernel_rfl
theorem c25 (args : List Value) (H : Hp) (n : Nat) : Call Try.prog 25 args H n = S25 (Call Try.prog) Loop (argsT args) H n := (Call_body Try.func25 args H n).trans (s25 ..)
/-! 27: laws.toNodeS -/
noncomputable def S27L0 (C : Calling) (L : Body → Body) : Body := fun t H n =>
  (lenV false (t 0)).bind fun v4 =>
  (binK .plain .lss (t 4) v4).bind fun v5 =>
  csel v5
    ((idxA 5 (t 0) (t 4)).bind fun v6 =>
     (ld true 5 v6 H).bind fun v7 =>
     (C 53 [v7] H (n + 13)).bind fun q8 =>
     (idxA 5 (t 3) (t 4)).bind fun v9 =>
     (st true 5 v9 q8.1 q8.2.1).bind fun H10 =>
     (binK .plain .add (t 4) (.int .i64 1)).bind fun v11 =>
     some ⟨.normal, put (put (put (put (put (put (put (put (put (put (put (put (put (put (put t 8 (t 4)) 9 (t 0)) 10 v4) 11 v5) 14 (t 3)) 15 (t 4)) 16 (t 0)) 17 (t 4)) 18 v6) 19 v7) 20 q8.1) 21 v9) 12 (t 4)) 13 v11) 4 v11, H10, q8.2.2 + 3⟩)
    (some ⟨(.exit 0), put (put (put (put t 8 (t 4)) 9 (t 0)) 10 v4) 11 v5, H, n + 4⟩)
noncomputable def S27 (C : Calling) (L : Body → Body) (t : Tm) (H : Hp) (n : Nat) : Option (Value × Hp × Nat) :=
  (lenV false (t 0)).bind fun v1 =>
  (mks (n + 3) 5 48 [.int .i64 0, .int .i64 0, .string ⟨#[]⟩, .int .i64 0, .int .i64 0] v1 v1 H).bind fun p2 =>
  (L (S27L0 C L) (put (put (put (put (put (put t 2 nilS) 5 (t 0)) 6 v1) 7 p2.1) 3 p2.1) 4 (.int .i64 0)) p2.2 (n + 6)).bind fun (o3 : Out) =>
  some (o3.t 3, o3.H, o3.n + 2)
theorem s27 (C : Calling) (L : Body → Body) (t : Tm) (H : Hp) (n : Nat) : bodyK Try.prog C L Try.f27 t H n = S27 C L t H n := by kernel_rfl
theorem c27 (args : List Value) (H : Hp) (n : Nat) : Call Try.prog 27 args H n = S27 (Call Try.prog) Loop (argsT args) H n := (Call_body Try.func27 args H n).trans (s27 ..)
/-! 28: impl.isNode -/
noncomputable def S28 (C : Calling) (L : Body → Body) (t : Tm) (H : Hp) (n : Nat) : Option (Value × Hp × Nat) :=
  (vcells (t 0)).bind fun c2 =>
  let H1 := H.set (n) (some (.row c2 0 true))
  (fieldA 0 (ptr (n) 0)).bind fun v3 =>
  (ld false 1 v3 H1).bind fun v4 =>
  (lenV false v4).bind fun v5 =>
  (binK .plain .sub v5 (.int .i64 1)).bind fun v6 =>
  (C 54 [t 1, .int .i64 0, v6] H1 (n + 9)).bind fun q7 =>
  some (q7.1, q7.2.1, q7.2.2)
theorem s28 (C : Calling) (L : Body → Body) (t : Tm) (H : Hp) (n : Nat) : bodyK Try.prog C L Try.f28 t H n = S28 C L t H n := by kernel_rfl
theorem c28 (args : List Value) (H : Hp) (n : Nat) : Call Try.prog 28 args H n = S28 (Call Try.prog) Loop (argsT args) H n := (Call_body Try.func28 args H n).trans (s28 ..)
/-! 31: laws.eqNodeS -/
noncomputable def S31L0 (C : Calling) (L : Body → Body) : Body := fun t H n =>
  (lenV false (t 0)).bind fun v5 =>
  (binK .plain .lss (t 5) v5).bind fun v6 =>
  csel v6
    ((idxA 5 (t 0) (t 5)).bind fun v7 =>
     (ld true 5 v7 H).bind fun v8 =>
     (idxA 5 (t 1) (t 5)).bind fun v9 =>
     (ld true 5 v9 H).bind fun v10 =>
     (C 58 [v8, v10] H (n + 14)).bind fun q11 =>
     (un .not q11.1).bind fun v12 =>
     csel v12
       (some ⟨.ret, put (put (put (put (put (put (put (put (put (put (put (put (put (put (put t 11 (t 5)) 12 (t 0)) 13 v5) 14 v6) 17 (t 0)) 18 (t 5)) 19 v7) 20 v8) 21 (t 1)) 22 (t 5)) 23 v9) 24 v10) 25 q11.1) 26 v12) 4 (.bool false), q11.2.1, q11.2.2 + 1⟩)
       ((binK .plain .add (t 5) (.int .i64 1)).bind fun v13 =>
        some ⟨.normal, put (put (put (put (put (put (put (put (put (put (put (put (put (put (put (put (put t 11 (t 5)) 12 (t 0)) 13 v5) 14 v6) 17 (t 0)) 18 (t 5)) 19 v7) 20 v8) 21 (t 1)) 22 (t 5)) 23 v9) 24 v10) 25 q11.1) 26 v12) 15 (t 5)) 16 v13) 5 v13, q11.2.1, q11.2.2 + 3⟩))
    (some ⟨(.exit 0), put (put (put (put t 11 (t 5)) 12 (t 0)) 13 v5) 14 v6, H, n + 4⟩)
noncomputable def S31 (C : Calling) (L : Body → Body) (t : Tm) (H : Hp) (n : Nat) : Option (Value × Hp × Nat) :=
  (lenV false (t 0)).bind fun v1 =>
  (lenV false (t 1)).bind fun v2 =>
  (binK .plain .neq v1 v2).bind fun v3 =>
  csel v3
    (some (.bool false, H, n + 7))
    ((L (S31L0 C L) (put (put (put (put (put (put (put t 4 (.bool false)) 6 (t 0)) 7 v1) 8 (t 1)) 9 v2) 10 v3) 5 (.int .i64 0)) H (n + 7)).bind fun (o4 : Out) =>
     let o14 := outOf 0 o4
     thenK o14
       (some (.bool true, o14.H, o14.n + 1))
       (finE o14.e
          (some (o14.t 4, o14.H, o14.n))))
theorem s31 (C : Calling) (L : Body → Body) (t : Tm) (H : Hp) (n : Nat) : bodyK Try.prog C L Try.f31 t H n = S31 C L t H n := by kernel_rfl
theorem c31 (args : List Value) (H : Hp) (n : Nat) : Call Try.prog 31 args H n = S31 (Call Try.prog) Loop (argsT args) H n := (Call_body Try.func31 args H n).trans (s31 ..)
/-! 32: spec.l7Keep -/
noncomputable def S32L0 (C : Calling) (L : Body → Body) : Body := fun t H n =>
  (lenV false (t 1)).bind fun v13 =>
  (binK .plain .lss (t 9) v13).bind fun v14 =>
  csel v14
    ((idxA 1 (t 1) (t 9)).bind fun v15 =>
     (ld false 1 v15 H).bind fun v16 =>
     (idxA 1 (t 7) v16).bind fun v17 =>
     (ld false 1 v17 H).bind fun v18 =>
     (bsl (n + 12) 1 1 [.int .i64 0] [(0, 1, v18)] H).bind fun p19 =>
     (app (n + 13) 1 8 (t 8) p19.1 p19.2).bind fun p20 =>
     (binK .plain .add (t 9) (.int .i64 1)).bind fun v21 =>
     some ⟨.normal, put (put (put (put (put (put (put (put (put (put (put (put (put (put (put (put (put (put t 17 (t 9)) 18 (t 1)) 19 v13) 20 v14) 23 (t 8)) 24 (t 7)) 25 (t 1)) 26 (t 9)) 27 v15) 28 v16) 29 v17) 30 v18) 31 p19.1) 32 p20.1) 8 p20.1) 21 (t 9)) 22 v21) 9 v21, p20.2, n + 18⟩)
    (some ⟨(.exit 0), put (put (put (put t 17 (t 9)) 18 (t 1)) 19 v13) 20 v14, H, n + 4⟩)
noncomputable def S32 (C : Calling) (L : Body → Body) (t : Tm) (H : Hp) (n : Nat) : Option (Value × Hp × Nat) :=
  (vcells (t 0)).bind fun c2 =>
  let H1 := H.set (n) (some (.row c2 0 true))
  let H3 := H1.set (n + 1) (some (.row [nilS] 0 true))
  (bld [nilS] []).bind fun v4 =>
  let H5 := H3.set (n + 4) (some (.row [nilS] 0 true))
  (st true 1 (ptr (n + 4) 0) v4 H5).bind fun H6 =>
  (ld true 1 (ptr (n) 0) H6).bind fun v7 =>
  (ld true 1 (ptr (n) 0) H6).bind fun v8 =>
  (C 60 [v8, t 1] H6 (n + 12)).bind fun q9 =>
  ask (ld true 1 (ptr (n) 0) q9.2.1 = some v7) <|
  (C 59 [ptr (n + 4) 0, v7, q9.1] q9.2.1 (q9.2.2)).bind fun q10 =>
  (bsl (q10.2.2) 1 0 [.int .i64 0] [] q10.2.1).bind fun p11 =>
  (L (S32L0 C L) (put (put (put (put (put (put (put (put (put (put (put (put (put (put t 2 (ptr (n) 0)) 4 (ptr (n + 1) 0)) 5 nilS) 10 v4) 6 (ptr (n + 4) 0)) 11 v7) 12 v8) 13 (t 1)) 14 q9.1) 15 q10.1) 7 q10.1) 16 p11.1) 8 p11.1) 9 (.int .i64 0)) p11.2 (q10.2.2 + 3)).bind fun (o12 : Out) =>
  (ld true 1 (o12.t 6) o12.H).bind fun v22 =>
  (st true 1 (o12.t 4) v22 o12.H).bind fun H23 =>
  (ld true 1 (o12.t 4) H23).bind fun v24 =>
  iteK ([v24, o12.t 8].all notTup) <|
  some (.tuple ⟨[v24, o12.t 8]⟩, H23, o12.n + 4)
theorem s32 (C : Calling) (L : Body → Body) (t : Tm) (H : Hp) (n : Nat) : bodyK Try.prog C L Try.f32 t H n = S32 C L t H n := by kernel_rfl
theorem c32 (args : List Value) (H : Hp) (n : Nat) : Call Try.prog 32 args H n = S32 (Call Try.prog) Loop (argsT args) H n := (Call_body Try.func32 args H n).trans (s32 ..)
/-! 33: spec.l8Nodes -/
noncomputable def S33L0 (C : Calling) (L : Body → Body) : Body := fun t H n =>
  (fieldA 0 (t 1)).bind fun v8 =>
  (ld false 1 v8 H).bind fun v9 =>
  (lenV false v9).bind fun v10 =>
  (binK .plain .lss (t 4) v10).bind fun v11 =>
  csel v11
    ((fieldA 0 (t 1)).bind fun v12 =>
     (ld false 1 v12 H).bind fun v13 =>
     (idxA 5 v13 (t 4)).bind fun v14 =>
     (ld true 5 v14 H).bind fun v15 =>
     let H16 := H.set (n + 10) (some (.row [.int .i64 0, .int .i64 0, .string ⟨#[]⟩, .int .i64 0, .int .i64 0] 0 true))
     (st true 5 (ptr (n + 10) 0) v15 H16).bind fun H17 =>
     (fieldA 0 (ptr (n + 10) 0)).bind fun v18 =>
     (ld false 1 v18 H17).bind fun v19 =>
     (C 61 [v19] H17 (n + 18)).bind fun q20 =>
     (app (n + 16) 1 1 (t 3) q20.1 q20.2.1).bind fun p21 =>
     (fieldA 0 (ptr (n + 10) 0)).bind fun v22 =>
     (ld false 1 v22 p21.2).bind fun v23 =>
     (binK .plain .eql v23 (.int .i64 2)).bind fun v24 =>
     let t26 : Tm := put (put (put (put (put (put (put (put (put (put (put (put (put (put (put (put (put (put (put (put (put t 10 (t 4)) 11 v8) 12 v9) 13 v10) 14 v11) 17 v12) 18 v13) 19 (t 4)) 20 v14) 21 v15) 5 (ptr (n + 10) 0)) 22 (t 3)) 23 v18) 24 v19) 25 q20.1) 26 p21.1) 3 p21.1) 27 v22) 28 v23) 30 v24) 29 v24
     (csel v24
       (some ⟨.normal, t26, p21.2, q20.2.2 + 4⟩)
       ((binK .plain .eql v23 (.int .i64 8)).bind fun v27 =>
        let t29 : Tm := put (put t26 31 v27) 29 v27
        (csel v27
          (some ⟨.normal, t29, p21.2, q20.2.2 + 6⟩)
          ((binK .plain .eql v23 (.int .i64 9)).bind fun v30 =>
           some ⟨.normal, put (put t29 32 v30) 29 v30, p21.2, q20.2.2 + 8⟩)
        ).bind fun (o28 : Out) =>
        some ⟨.normal, o28.t, o28.H, o28.n⟩)
     ).bind fun (o25 : Out) =>
     (csel (o25.t 29)
       ((fieldA 1 (o25.t 5)).bind fun v33 =>
        (ld false 1 v33 o25.H).bind fun v34 =>
        (C 61 [v34] o25.H (o25.n + 6)).bind fun q35 =>
        (app (o25.n + 4) 1 1 (o25.t 3) q35.1 q35.2.1).bind fun p36 =>
        some ⟨.normal, put (put (put (put (put (put o25.t 33 (o25.t 3)) 34 v33) 35 v34) 36 q35.1) 37 p36.1) 3 p36.1, p36.2, q35.2.2⟩)
       ((binK .plain .eql (o25.t 28) (.int .i64 3)).bind fun v37 =>
        let t39 : Tm := put (put o25.t 39 v37) 38 v37
        (csel v37
          ((fieldA 1 (t39 5)).bind fun v40 =>
           (ld false 1 v40 o25.H).bind fun v41 =>
           (binK .plain .add v41 (.int .i64 1000000000)).bind fun v42 =>
           (C 61 [v42] o25.H (o25.n + 9)).bind fun q43 =>
           (app (o25.n + 7) 1 1 (t39 3) q43.1 q43.2.1).bind fun p44 =>
           some ⟨.normal, put (put (put (put (put (put (put t39 40 (t39 3)) 41 v40) 42 v41) 43 v42) 44 q43.1) 45 p44.1) 3 p44.1, p44.2, q43.2.2⟩)
          ((binK .plain .eql (t39 28) (.int .i64 4)).bind fun v45 =>
           let t47 : Tm := put (put t39 47 v45) 46 v45
           (csel v45
             ((fieldA 2 (t47 5)).bind fun v48 =>
              (ld false 1 v48 o25.H).bind fun v49 =>
              (C 62 [v49] o25.H (o25.n + 10)).bind fun q50 =>
              (app (o25.n + 8) 1 1 (t47 3) q50.1 q50.2.1).bind fun p51 =>
              some ⟨.normal, put (put (put (put (put (put t47 48 (t47 3)) 49 v48) 50 v49) 51 q50.1) 52 p51.1) 3 p51.1, p51.2, q50.2.2⟩)
             ((binK .plain .eql (t47 28) (.int .i64 5)).bind fun v52 =>
              let t54 : Tm := put (put t47 54 v52) 53 v52
              (csel v52
                ((fieldA 3 (t54 5)).bind fun v55 =>
                 (ld false 1 v55 o25.H).bind fun v56 =>
                 (C 61 [v56] o25.H (o25.n + 16)).bind fun q57 =>
                 (app (o25.n + 10) 1 1 (t54 3) q57.1 q57.2.1).bind fun p58 =>
                 (fieldA 4 (t54 5)).bind fun v59 =>
                 (ld false 1 v59 p58.2).bind fun v60 =>
                 ask (ld false 1 v59 q57.2.1 = some v60) <|
                 ask (ld false 1 v59 o25.H = some v60) <|
                 (C 61 [v60] p58.2 (q57.2.2)).bind fun q61 =>
                 (app (o25.n + 14) 1 1 p58.1 q61.1 q61.2.1).bind fun p62 =>
                 some ⟨.normal, put (put (put (put (put (put (put (put (put (put t54 55 (t54 3)) 56 v55) 57 v56) 58 q57.1) 59 p58.1) 60 v59) 61 v60) 62 q61.1) 63 p62.1) 3 p62.1, p62.2, q61.2.2⟩)
                ((binK .plain .eql (t54 28) (.int .i64 6)).bind fun v63 =>
                 let t65 : Tm := put (put t54 65 v63) 64 v63
                 (csel v63
                   ((fieldA 1 (t65 5)).bind fun v66 =>
                    (ld false 1 v66 o25.H).bind fun v67 =>
                    (C 61 [v67] o25.H (o25.n + 18)).bind fun q68 =>
                    (app (o25.n + 12) 1 1 (t65 3) q68.1 q68.2.1).bind fun p69 =>
                    (fieldA 3 (t65 5)).bind fun v70 =>
                    (ld false 1 v70 p69.2).bind fun v71 =>
                    ask (ld false 1 v70 q68.2.1 = some v71) <|
                    ask (ld false 1 v70 o25.H = some v71) <|
                    (C 61 [v71] p69.2 (q68.2.2)).bind fun q72 =>
                    (app (o25.n + 16) 1 1 p69.1 q72.1 q72.2.1).bind fun p73 =>
                    some ⟨.normal, put (put (put (put (put (put (put (put (put (put t65 66 (t65 3)) 67 v66) 68 v67) 69 q68.1) 70 p69.1) 71 v70) 72 v71) 73 q72.1) 74 p73.1) 3 p73.1, p73.2, q72.2.2⟩)
                   ((binK .plain .eql (t65 28) (.int .i64 7)).bind fun v74 =>
                    let t76 : Tm := put (put t65 76 v74) 75 v74
                    (csel v74
                      ((fieldA 3 (t76 5)).bind fun v77 =>
                       (ld false 1 v77 o25.H).bind fun v78 =>
                       (C 61 [v78] o25.H (o25.n + 16)).bind fun q79 =>
                       (app (o25.n + 14) 1 1 (t76 3) q79.1 q79.2.1).bind fun p80 =>
                       some ⟨.normal, put (put (put (put (put (put t76 77 (t76 3)) 78 v77) 79 v78) 80 q79.1) 81 p80.1) 3 p80.1, p80.2, q79.2.2⟩)
                      (some ⟨.normal, t76, o25.H, o25.n + 10⟩)
                    ).bind fun (o75 : Out) =>
                    some ⟨.normal, o75.t, o75.H, o75.n⟩)
                 ).bind fun (o64 : Out) =>
                 some ⟨.normal, o64.t, o64.H, o64.n⟩)
              ).bind fun (o53 : Out) =>
              some ⟨.normal, o53.t, o53.H, o53.n⟩)
           ).bind fun (o46 : Out) =>
           some ⟨.normal, o46.t, o46.H, o46.n⟩)
        ).bind fun (o38 : Out) =>
        some ⟨.normal, o38.t, o38.H, o38.n⟩)
     ).bind fun (o31 : Out) =>
     (binK .plain .add (o31.t 4) (.int .i64 1)).bind fun v81 =>
     some ⟨.normal, put (put (put o31.t 15 (o31.t 4)) 16 v81) 4 v81, o31.H, o31.n + 3⟩)
    (some ⟨(.exit 0), put (put (put (put (put t 10 (t 4)) 11 v8) 12 v9) 13 v10) 14 v11, H, n + 5⟩)
noncomputable def S33 (C : Calling) (L : Body → Body) (t : Tm) (H : Hp) (n : Nat) : Option (Value × Hp × Nat) :=
  (vcells (t 0)).bind fun c2 =>
  let H1 := H.set (n) (some (.row c2 0 true))
  (fieldA 0 (ptr (n) 0)).bind fun v3 =>
  (ld false 1 v3 H1).bind fun v4 =>
  (lenV false v4).bind fun v5 =>
  (C 61 [v5] H1 (n + 7)).bind fun q6 =>
  (L (S33L0 C L) (put (put (put (put (put (put (put (put t 1 (ptr (n) 0)) 2 nilS) 6 v3) 7 v4) 8 v5) 9 q6.1) 3 q6.1) 4 (.int .i64 0)) q6.2.1 (q6.2.2 + 1)).bind fun (o7 : Out) =>
  some (o7.t 3, o7.H, o7.n + 2)
theorem s33 (C : Calling) (L : Body → Body) (t : Tm) (H : Hp) (n : Nat) : bodyK Try.prog C L Try.f33 t H n = S33 C L t H n := by kernel_rfl
theorem c33 (args : List Value) (H : Hp) (n : Nat) : Call Try.prog 33 args H n = S33 (Call Try.prog) Loop (argsT args) H n := (Call_body Try.func33 args H n).trans (s33 ..)
/-! 34: impl.keep -/
noncomputable def S34L0 (C : Calling) (L : Body → Body) : Body := fun t H n =>
  (binK .plain .lss (t 18) (t 17)).bind fun v12 =>
  csel v12
    ((idxA 1 (t 16) (t 18)).bind fun v13 =>
     (ld false 1 v13 H).bind fun v14 =>
     (idxA 1 (t 7) v14).bind fun v15 =>
     (ld false 1 v15 H).bind fun v16 =>
     (bsl (n + 9) 1 1 [.int .i64 0] [(0, 1, v16)] H).bind fun p17 =>
     (app (n + 10) 1 8 (t 8) p17.1 p17.2).bind fun p18 =>
     (binK .plain .add (t 18) (.int .i64 1)).bind fun v19 =>
     some ⟨.normal, put (put (put (put (put (put (put (put (put (put (put (put (put (put t 19 v12) 20 v13) 21 v14) 10 v14) 22 (t 8)) 23 (t 7)) 24 v14) 25 v15) 26 v16) 27 p17.1) 28 p18.1) 8 p18.1) 29 v19) 18 v19, p18.2, n + 14⟩)
    (some ⟨(.exit 0), put t 19 v12, H, n + 1⟩)
noncomputable def S34 (C : Calling) (L : Body → Body) (t : Tm) (H : Hp) (n : Nat) : Option (Value × Hp × Nat) :=
  (vcells (t 0)).bind fun c2 =>
  let H1 := H.set (n) (some (.row c2 0 true))
  let H3 := H1.set (n + 1) (some (.row [nilS] 0 true))
  (bld [nilS] []).bind fun v4 =>
  let H5 := H3.set (n + 4) (some (.row [nilS] 0 true))
  (st true 1 (ptr (n + 4) 0) v4 H5).bind fun H6 =>
  (ld true 1 (ptr (n) 0) H6).bind fun v7 =>
  (C 63 [ptr (n + 4) 0, v7, t 1] H6 (n + 10)).bind fun q8 =>
  (bsl (q8.2.2) 1 0 [.int .i64 0] [] q8.2.1).bind fun p9 =>
  (lenV false (t 1)).bind fun v10 =>
  (L (S34L0 C L) (put (put (put (put (put (put (put (put (put (put (put (put (put (put t 2 (ptr (n) 0)) 4 (ptr (n + 1) 0)) 5 nilS) 11 v4) 6 (ptr (n + 4) 0)) 12 v7) 13 (t 1)) 14 q8.1) 7 q8.1) 15 p9.1) 8 p9.1) 16 (t 1)) 17 v10) 18 (.int .i64 0)) p9.2 (q8.2.2 + 5)).bind fun (o11 : Out) =>
  (ld true 1 (o11.t 6) o11.H).bind fun v20 =>
  (st true 1 (o11.t 4) v20 o11.H).bind fun H21 =>
  (ld true 1 (o11.t 4) H21).bind fun v22 =>
  iteK ([v22, o11.t 8].all notTup) <|
  some (.tuple ⟨[v22, o11.t 8]⟩, H21, o11.n + 4)
theorem s34 (C : Calling) (L : Body → Body) (t : Tm) (H : Hp) (n : Nat) : bodyK Try.prog C L Try.f34 t H n = S34 C L t H n := by kernel_rfl
theorem c34 (args : List Value) (H : Hp) (n : Nat) : Call Try.prog 34 args H n = S34 (Call Try.prog) Loop (argsT args) H n := (Call_body Try.func34 args H n).trans (s34 ..)
/-! 35: impl.packNodes -/
noncomputable def S35L0 (C : Calling) (L : Body → Body) : Body := fun t H n =>
  (binK .plain .lss (t 13) (t 12)).bind fun v11 =>
  csel v11
    ((idxA 5 (t 11) (t 13)).bind fun v12 =>
     (ld true 5 v12 H).bind fun v13 =>
     let H14 := H.set (n + 3) (some (.row [.int .i64 0, .int .i64 0, .string ⟨#[]⟩, .int .i64 0, .int .i64 0] 0 true))
     (st true 5 (ptr (n + 3) 0) v13 H14).bind fun H15 =>
     (fieldA 0 (ptr (n + 3) 0)).bind fun v16 =>
     (ld false 1 v16 H15).bind fun v17 =>
     (C 64 [v17] H15 (n + 11)).bind fun q18 =>
     (app (n + 9) 1 1 (t 3) q18.1 q18.2.1).bind fun p19 =>
     (fieldA 0 (ptr (n + 3) 0)).bind fun v20 =>
     (ld false 1 v20 p19.2).bind fun v21 =>
     (binK .plain .eql v21 (.int .i64 2)).bind fun v22 =>
     let t24 : Tm := put (put (put (put (put (put (put (put (put (put (put (put (put (put t 14 v11) 15 v12) 16 v13) 5 (ptr (n + 3) 0)) 17 (t 3)) 18 v16) 19 v17) 20 q18.1) 21 p19.1) 3 p19.1) 22 v20) 23 v21) 25 v22) 24 v22
     (csel v22
       (some ⟨.normal, t24, p19.2, q18.2.2 + 4⟩)
       ((binK .plain .eql v21 (.int .i64 8)).bind fun v25 =>
        let t27 : Tm := put (put t24 26 v25) 24 v25
        (csel v25
          (some ⟨.normal, t27, p19.2, q18.2.2 + 6⟩)
          ((binK .plain .eql v21 (.int .i64 9)).bind fun v28 =>
           some ⟨.normal, put (put t27 27 v28) 24 v28, p19.2, q18.2.2 + 8⟩)
        ).bind fun (o26 : Out) =>
        some ⟨.normal, o26.t, o26.H, o26.n⟩)
     ).bind fun (o23 : Out) =>
     (csel (o23.t 24)
       ((fieldA 1 (o23.t 5)).bind fun v31 =>
        (ld false 1 v31 o23.H).bind fun v32 =>
        (C 64 [v32] o23.H (o23.n + 6)).bind fun q33 =>
        (app (o23.n + 4) 1 1 (o23.t 3) q33.1 q33.2.1).bind fun p34 =>
        some ⟨.normal, put (put (put (put (put (put o23.t 28 (o23.t 3)) 29 v31) 30 v32) 31 q33.1) 32 p34.1) 3 p34.1, p34.2, q33.2.2⟩)
       ((binK .plain .eql (o23.t 23) (.int .i64 3)).bind fun v35 =>
        let t37 : Tm := put (put o23.t 34 v35) 33 v35
        (csel v35
          ((fieldA 1 (t37 5)).bind fun v38 =>
           (ld false 1 v38 o23.H).bind fun v39 =>
           (binK .plain .add v39 (.int .i64 1000000000)).bind fun v40 =>
           (C 64 [v40] o23.H (o23.n + 9)).bind fun q41 =>
           (app (o23.n + 7) 1 1 (t37 3) q41.1 q41.2.1).bind fun p42 =>
           some ⟨.normal, put (put (put (put (put (put (put t37 35 (t37 3)) 36 v38) 37 v39) 38 v40) 39 q41.1) 40 p42.1) 3 p42.1, p42.2, q41.2.2⟩)
          ((binK .plain .eql (t37 23) (.int .i64 4)).bind fun v43 =>
           let t45 : Tm := put (put t37 42 v43) 41 v43
           (csel v43
             ((fieldA 2 (t45 5)).bind fun v46 =>
              (ld false 1 v46 o23.H).bind fun v47 =>
              (C 65 [v47] o23.H (o23.n + 10)).bind fun q48 =>
              (app (o23.n + 8) 1 1 (t45 3) q48.1 q48.2.1).bind fun p49 =>
              some ⟨.normal, put (put (put (put (put (put t45 43 (t45 3)) 44 v46) 45 v47) 46 q48.1) 47 p49.1) 3 p49.1, p49.2, q48.2.2⟩)
             ((binK .plain .eql (t45 23) (.int .i64 5)).bind fun v50 =>
              let t52 : Tm := put (put t45 49 v50) 48 v50
              (csel v50
                ((fieldA 3 (t52 5)).bind fun v53 =>
                 (ld false 1 v53 o23.H).bind fun v54 =>
                 (C 64 [v54] o23.H (o23.n + 12)).bind fun q55 =>
                 (app (o23.n + 10) 1 1 (t52 3) q55.1 q55.2.1).bind fun p56 =>
                 (fieldA 4 (t52 5)).bind fun v57 =>
                 (ld false 1 v57 p56.2).bind fun v58 =>
                 (C 64 [v58] p56.2 (q55.2.2 + 6)).bind fun q59 =>
                 (app (q55.2.2 + 4) 1 1 p56.1 q59.1 q59.2.1).bind fun p60 =>
                 some ⟨.normal, put (put (put (put (put (put (put (put (put (put (put (put t52 50 (t52 3)) 51 v53) 52 v54) 53 q55.1) 54 p56.1) 3 p56.1) 55 p56.1) 56 v57) 57 v58) 58 q59.1) 59 p60.1) 3 p60.1, p60.2, q59.2.2⟩)
                ((binK .plain .eql (t52 23) (.int .i64 6)).bind fun v61 =>
                 let t63 : Tm := put (put t52 61 v61) 60 v61
                 (csel v61
                   ((fieldA 1 (t63 5)).bind fun v64 =>
                    (ld false 1 v64 o23.H).bind fun v65 =>
                    (C 64 [v65] o23.H (o23.n + 14)).bind fun q66 =>
                    (app (o23.n + 12) 1 1 (t63 3) q66.1 q66.2.1).bind fun p67 =>
                    (fieldA 3 (t63 5)).bind fun v68 =>
                    (ld false 1 v68 p67.2).bind fun v69 =>
                    (C 64 [v69] p67.2 (q66.2.2 + 6)).bind fun q70 =>
                    (app (q66.2.2 + 4) 1 1 p67.1 q70.1 q70.2.1).bind fun p71 =>
                    some ⟨.normal, put (put (put (put (put (put (put (put (put (put (put (put t63 62 (t63 3)) 63 v64) 64 v65) 65 q66.1) 66 p67.1) 3 p67.1) 67 p67.1) 68 v68) 69 v69) 70 q70.1) 71 p71.1) 3 p71.1, p71.2, q70.2.2⟩)
                   ((binK .plain .eql (t63 23) (.int .i64 7)).bind fun v72 =>
                    let t74 : Tm := put (put t63 73 v72) 72 v72
                    (csel v72
                      ((fieldA 3 (t74 5)).bind fun v75 =>
                       (ld false 1 v75 o23.H).bind fun v76 =>
                       (C 64 [v76] o23.H (o23.n + 16)).bind fun q77 =>
                       (app (o23.n + 14) 1 1 (t74 3) q77.1 q77.2.1).bind fun p78 =>
                       some ⟨.normal, put (put (put (put (put (put t74 74 (t74 3)) 75 v75) 76 v76) 77 q77.1) 78 p78.1) 3 p78.1, p78.2, q77.2.2⟩)
                      (some ⟨.normal, t74, o23.H, o23.n + 10⟩)
                    ).bind fun (o73 : Out) =>
                    some ⟨.normal, o73.t, o73.H, o73.n⟩)
                 ).bind fun (o62 : Out) =>
                 some ⟨.normal, o62.t, o62.H, o62.n⟩)
              ).bind fun (o51 : Out) =>
              some ⟨.normal, o51.t, o51.H, o51.n⟩)
           ).bind fun (o44 : Out) =>
           some ⟨.normal, o44.t, o44.H, o44.n⟩)
        ).bind fun (o36 : Out) =>
        some ⟨.normal, o36.t, o36.H, o36.n⟩)
     ).bind fun (o29 : Out) =>
     (binK .plain .add (o29.t 13) (.int .i64 1)).bind fun v79 =>
     some ⟨.normal, put (put o29.t 79 v79) 13 v79, o29.H, o29.n + 2⟩)
    (some ⟨(.exit 0), put t 14 v11, H, n + 1⟩)
noncomputable def S35 (C : Calling) (L : Body → Body) (t : Tm) (H : Hp) (n : Nat) : Option (Value × Hp × Nat) :=
  (vcells (t 0)).bind fun c2 =>
  let H1 := H.set (n) (some (.row c2 0 true))
  (fieldA 0 (ptr (n) 0)).bind fun v3 =>
  (ld false 1 v3 H1).bind fun v4 =>
  (lenV false v4).bind fun v5 =>
  (C 64 [v5] H1 (n + 7)).bind fun q6 =>
  (fieldA 0 (ptr (n) 0)).bind fun v7 =>
  (ld false 1 v7 q6.2.1).bind fun v8 =>
  (lenV false v8).bind fun v9 =>
  (L (S35L0 C L) (put (put (put (put (put (put (put (put (put (put (put t 1 (ptr (n) 0)) 2 nilS) 6 v3) 7 v4) 8 v5) 9 q6.1) 3 q6.1) 10 v7) 11 v8) 12 v9) 13 (.int .i64 0)) q6.2.1 (q6.2.2 + 4)).bind fun (o10 : Out) =>
  some (o10.t 3, o10.H, o10.n + 2)
theorem s35 (C : Calling) (L : Body → Body) (t : Tm) (H : Hp) (n : Nat) : bodyK Try.prog C L Try.f35 t H n = S35 C L t H n := by kernel_rfl
theorem c35 (args : List Value) (H : Hp) (n : Nat) : Call Try.prog 35 args H n = S35 (Call Try.prog) Loop (argsT args) H n := (Call_body Try.func35 args H n).trans (s35 ..)
/-! 40: spec.l2Add -/
noncomputable def S40 (C : Calling) (L : Body → Body) (t : Tm) (H : Hp) (n : Nat) : Option (Value × Hp × Nat) :=
  (vcells (t 1)).bind fun c2 =>
  let H1 := H.set (n) (some (.row c2 0 true))
  (nilchk (t 0)).bind fun v3 =>
  (fieldA 0 v3).bind fun v4 =>
  (ld false 1 v4 H1).bind fun v5 =>
  (ld true 5 (ptr (n) 0) H1).bind fun v6 =>
  (bsl (n + 8) 5 1 [.int .i64 0, .int .i64 0, .string ⟨#[]⟩, .int .i64 0, .int .i64 0] [(0, 5, v6)] H1).bind fun p7 =>
  (app (n + 9) 5 48 v5 p7.1 p7.2).bind fun p8 =>
  (nilchk (t 0)).bind fun v9 =>
  (fieldA 0 v9).bind fun v10 =>
  (st false 1 v10 p8.1 p8.2).bind fun H11 =>
  (nilchk (t 0)).bind fun v12 =>
  (fieldA 0 v12).bind fun v13 =>
  (ld false 1 v13 H11).bind fun v14 =>
  (lenV false v14).bind fun v15 =>
  (binK .plain .sub v15 (.int .i64 1)).bind fun v16 =>
  some (v16, H11, n + 20)
theorem s40 (C : Calling) (L : Body → Body) (t : Tm) (H : Hp) (n : Nat) : bodyK Try.prog C L Try.f40 t H n = S40 C L t H n := by kernel_rfl
theorem c40 (args : List Value) (H : Hp) (n : Nat) : Call Try.prog 40 args H n = S40 (Call Try.prog) Loop (argsT args) H n := (Call_body Try.func40 args H n).trans (s40 ..)
/-! 48: impl.nodeOk -/
noncomputable def S48 (C : Calling) (L : Body → Body) (t : Tm) (H : Hp) (n : Nat) : Option (Value × Hp × Nat) :=
  (vcells (t 0)).bind fun c2 =>
  let H1 := H.set (n) (some (.row c2 0 true))
  (fieldA 2 (ptr (n) 0)).bind fun v3 =>
  (ld false 1 v3 H1).bind fun v4 =>
  (binK .plain .eql v4 (.string ⟨#[]⟩)).bind fun v5 =>
  (fieldA 3 (ptr (n) 0)).bind fun v6 =>
  (ld false 1 v6 H1).bind fun v7 =>
  (binK .plain .eql v7 (.int .i64 0)).bind fun v8 =>
  (fieldA 4 (ptr (n) 0)).bind fun v9 =>
  (ld false 1 v9 H1).bind fun v10 =>
  (binK .plain .eql v10 (.int .i64 0)).bind fun v11 =>
  (fieldA 0 (ptr (n) 0)).bind fun v12 =>
  (ld false 1 v12 H1).bind fun v13 =>
  (binK .plain .eql v13 (.int .i64 1)).bind fun v14 =>
  let t16 : Tm := put (put (put (put (put (put (put (put (put (put (put (put (put (put (put (put (put (put (put (put t 2 (ptr (n) 0)) 4 (.bool false)) 10 v3) 11 v4) 12 v5) 5 (.int .i64 0)) 6 (.int .i64 0)) 7 v5) 13 v6) 14 v7) 15 v8) 16 v9) 17 v10) 18 v11) 8 v8) 9 v11) 19 v12) 20 v13) 22 v14) 21 v14
  (csel v14
    (some ⟨.normal, t16, H1, n + 20⟩)
    ((binK .plain .eql v13 (.int .i64 2)).bind fun v17 =>
     let t19 : Tm := put (put t16 24 v17) 23 v17
     (csel v17
       (some ⟨.normal, put t19 6 (.int .i64 1), H1, n + 23⟩)
       ((binK .plain .eql v13 (.int .i64 3)).bind fun v20 =>
        let t22 : Tm := put (put t19 26 v20) 25 v20
        (csel v20
          (some ⟨.normal, put (put t22 5 (.int .i64 (-1000000000))) 6 (.int .i64 1000000000), H1, n + 26⟩)
          ((binK .plain .eql v13 (.int .i64 4)).bind fun v23 =>
           let t25 : Tm := put (put t22 28 v23) 27 v23
           (csel v23
             ((fieldA 2 (ptr (n) 0)).bind fun v26 =>
              (ld false 1 v26 H1).bind fun v27 =>
              (C 72 [v27] H1 (n + 30)).bind fun q28 =>
              some ⟨.normal, put (put (put (put t25 29 v26) 30 v27) 31 q28.1) 7 q28.1, q28.2.1, q28.2.2⟩)
             ((binK .plain .eql v13 (.int .i64 5)).bind fun v29 =>
              let t31 : Tm := put (put t25 33 v29) 32 v29
              (csel v29
                ((fieldA 3 (ptr (n) 0)).bind fun v32 =>
                 (ld false 1 v32 H1).bind fun v33 =>
                 (binK .plain .sub (t31 1) (.int .i64 1)).bind fun v34 =>
                 (C 54 [v33, .int .i64 0, v34] H1 (n + 40)).bind fun q35 =>
                 (fieldA 4 (ptr (n) 0)).bind fun v36 =>
                 (ld false 1 v36 q35.2.1).bind fun v37 =>
                 ask (ld false 1 v36 H1 = some v37) <|
                 (binK .plain .sub (t31 1) (.int .i64 1)).bind fun v38 =>
                 (C 54 [v37, .int .i64 0, v38] q35.2.1 (q35.2.2)).bind fun q39 =>
                 some ⟨.normal, put (put (put (put (put (put (put (put (put (put (put (put t31 34 v32) 35 v33) 36 (t31 1)) 37 v34) 38 q35.1) 39 v36) 40 v37) 41 (t31 1)) 42 v38) 43 q39.1) 8 q35.1) 9 q39.1, q39.2.1, q39.2.2⟩)
                ((binK .plain .eql v13 (.int .i64 6)).bind fun v40 =>
                 let t42 : Tm := put (put t31 45 v40) 44 v40
                 (csel v40
                   ((fieldA 3 (ptr (n) 0)).bind fun v43 =>
                    (ld false 1 v43 H1).bind fun v44 =>
                    (binK .plain .sub (t42 1) (.int .i64 1)).bind fun v45 =>
                    (C 54 [v44, .int .i64 0, v45] H1 (n + 37)).bind fun q46 =>
                    some ⟨.normal, put (put (put (put (put (put (put t42 46 v43) 47 v44) 48 (t42 1)) 49 v45) 50 q46.1) 6 (.int .i64 1000000000)) 8 q46.1, q46.2.1, q46.2.2⟩)
                   ((binK .plain .eql v13 (.int .i64 7)).bind fun v47 =>
                    let t49 : Tm := put (put t42 52 v47) 51 v47
                    (csel v47
                      ((fieldA 3 (ptr (n) 0)).bind fun v50 =>
                       (ld false 1 v50 H1).bind fun v51 =>
                       (binK .plain .sub (t49 1) (.int .i64 1)).bind fun v52 =>
                       (C 54 [v51, .int .i64 0, v52] H1 (n + 38)).bind fun q53 =>
                       some ⟨.normal, put (put (put (put (put (put t49 53 v50) 54 v51) 55 (t49 1)) 56 v52) 57 q53.1) 8 q53.1, q53.2.1, q53.2.2⟩)
                      ((binK .plain .eql v13 (.int .i64 8)).bind fun v54 =>
                       let t56 : Tm := put (put t49 59 v54) 58 v54
                       (csel v54
                         (some ⟨.normal, put t56 6 (.int .i64 99), H1, n + 35⟩)
                         ((binK .plain .eql v13 (.int .i64 9)).bind fun v57 =>
                          csel v57
                            (some ⟨.normal, put (put (put t56 61 v57) 60 v57) 6 (.int .i64 1000000000), H1, n + 37⟩)
                            (some ⟨.ret, put (put (put t56 61 v57) 60 v57) 4 (.bool false), H1, n + 37⟩))
                       ).bind fun (o55 : Out) =>
                       some o55)
                    ).bind fun (o48 : Out) =>
                    some o48)
                 ).bind fun (o41 : Out) =>
                 some o41)
              ).bind fun (o30 : Out) =>
              some o30)
           ).bind fun (o24 : Out) =>
           some o24)
        ).bind fun (o21 : Out) =>
        some o21)
     ).bind fun (o18 : Out) =>
     some o18)
  ).bind fun (o15 : Out) =>
  let o58 := outOf 0 o15
  thenK o58
    ((fieldA 1 (o58.t 2)).bind fun v59 =>
     (ld false 1 v59 o58.H).bind fun v60 =>
     (C 54 [v60, o58.t 5, o58.t 6] o58.H (o58.n + 15)).bind fun q61 =>
     (pickV q61.1 (gsel q61.1 true (o58.t 7) (.tuple #[])) (.bool false)).bind fun v62 =>
     (pickV v62 (gsel v62 true (o58.t 8) (.tuple #[])) (.bool false)).bind fun v63 =>
     (pickV v63 (gsel v63 true (o58.t 9) (.tuple #[])) (.bool false)).bind fun v64 =>
     some (v64, q61.2.1, q61.2.2))
    (finE o58.e
       (some (o58.t 4, o58.H, o58.n)))
theorem s48 (C : Calling) (L : Body → Body) (t : Tm) (H : Hp) (n : Nat) : bodyK Try.prog C L Try.f48 t H n = S48 C L t H n := by kernel_rfl
theorem c48 (args : List Value) (H : Hp) (n : Nat) : Call Try.prog 48 args H n = S48 (Call Try.prog) Loop (argsT args) H n := (Call_body Try.func48 args H n).trans (s48 ..)
/-! 49: laws.szNode -/
noncomputable def S49 (C : Calling) (L : Body → Body) (t : Tm) (H : Hp) (n : Nat) : Option (Value × Hp × Nat) :=
  (vcells (t 0)).bind fun c2 =>
  let H1 := H.set (n) (some (.row c2 0 true))
  (fieldA 2 (ptr (n) 0)).bind fun v3 =>
  (ld false 1 v3 H1).bind fun v4 =>
  (lenV true v4).bind fun v5 =>
  (binK .plain .sub (t 1) v5).bind fun v6 =>
  (binK .plain .lss v6 (.int .i64 0)).bind fun v7 =>
  csel v7
    (some (.int .i64 (-1), H1, n + 11))
    (some (v6, H1, n + 12))
theorem s49 (C : Calling) (L : Body → Body) (t : Tm) (H : Hp) (n : Nat) : bodyK Try.prog C L Try.f49 t H n = S49 C L t H n := by kernel_rfl
theorem c49 (args : List Value) (H : Hp) (n : Nat) : Call Try.prog 49 args H n = S49 (Call Try.prog) Loop (argsT args) H n := (Call_body Try.func49 args H n).trans (s49 ..)
/-! 50: spec.l2Node -/
noncomputable def S50 (C : Calling) (L : Body → Body) (t : Tm) (H : Hp) (n : Nat) : Option (Value × Hp × Nat) :=
  (vcells (t 0)).bind fun c2 =>
  let H1 := H.set (n) (some (.row c2 0 true))
  (fieldA 3 (ptr (n) 0)).bind fun v3 =>
  (ld false 1 v3 H1).bind fun v4 =>
  (binK .plain .sub (t 1) (.int .i64 1)).bind fun v5 =>
  (C 51 [v4, .int .i64 0, v5] H1 (n + 8)).bind fun q6 =>
  (fieldA 4 (ptr (n) 0)).bind fun v7 =>
  (ld false 1 v7 q6.2.1).bind fun v8 =>
  (binK .plain .sub (t 1) (.int .i64 1)).bind fun v9 =>
  (C 51 [v8, .int .i64 0, v9] q6.2.1 (q6.2.2 + 6)).bind fun q10 =>
  (fieldA 0 (ptr (n) 0)).bind fun v11 =>
  (ld false 1 v11 q10.2.1).bind fun v12 =>
  (binK .plain .eql v12 (.int .i64 1)).bind fun v13 =>
  csel v13
    ((ld true 5 (ptr (n) 0) q10.2.1).bind fun v14 =>
     (bld [.int .i64 0, .int .i64 0, .string ⟨#[]⟩, .int .i64 0, .int .i64 0] [(0, 1, .int .i64 1)]).bind fun v15 =>
     (binK (.agg [(0, (.int .i64)), (1, (.int .i64)), (2, .string), (3, (.int .i64)), (4, (.int .i64))]) .eql v14 v15).bind fun v16 =>
     some (v16, q10.2.1, q10.2.2 + 8))
    ((binK .plain .eql v12 (.int .i64 2)).bind fun v17 =>
     csel v17
       ((fieldA 1 (ptr (n) 0)).bind fun v18 =>
        (ld false 1 v18 q10.2.1).bind fun v19 =>
        (C 51 [v19, .int .i64 0, .int .i64 1] q10.2.1 (q10.2.2 + 17)).bind fun q20 =>
        let t22 : Tm := put (put (put (put (put (put (put (put (put (put (put (put (put (put (put (put (put (put (put (put (put (put (put (put t 2 (ptr (n) 0)) 4 (.bool false)) 7 v3) 8 v4) 9 (t 1)) 10 v5) 11 q6.1) 5 q6.1) 12 v7) 13 v8) 14 (t 1)) 15 v9) 16 q10.1) 6 q10.1) 17 v11) 18 v12) 20 v13) 19 v13) 25 v17) 24 v17) 26 v18) 27 v19) 28 q20.1) 29 q20.1
        (gsel q20.1 true
          ((ld true 5 (ptr (n) 0) q20.2.1).bind fun v23 =>
           (fieldA 1 (ptr (n) 0)).bind fun v24 =>
           (ld false 1 v24 q20.2.1).bind fun v25 =>
           (bld [.int .i64 0, .int .i64 0, .string ⟨#[]⟩, .int .i64 0, .int .i64 0] [(0, 1, .int .i64 2), (1, 1, v25)]).bind fun v26 =>
           (binK (.agg [(0, (.int .i64)), (1, (.int .i64)), (2, .string), (3, (.int .i64)), (4, (.int .i64))]) .eql v23 v26).bind fun v27 =>
           some (put (put (put (put (put t22 30 v23) 31 v24) 32 v25) 33 v26) 34 v27, q20.2.1, q20.2.2))
          (some (put (put (put (put (put t22 30 (.tuple #[])) 31 (.tuple #[])) 32 (.tuple #[])) 33 (.tuple #[])) 34 (.tuple #[]), q20.2.1, q20.2.2))
        ).bind fun (q21 : R3) =>
        (pickV (q21.1 29) (q21.1 34) (.bool false)).bind fun v28 =>
        some (v28, q21.2.1, q21.2.2))
       ((binK .plain .eql v12 (.int .i64 3)).bind fun v29 =>
        csel v29
          ((fieldA 1 (ptr (n) 0)).bind fun v30 =>
           (ld false 1 v30 q10.2.1).bind fun v31 =>
           (C 51 [v31, .int .i64 (-1000000000), .int .i64 1000000000] q10.2.1 (q10.2.2 + 19)).bind fun q32 =>
           let t34 : Tm := put (put (put (put (put (put (put (put (put (put (put (put (put (put (put (put (put (put (put (put (put (put (put (put (put (put t 2 (ptr (n) 0)) 4 (.bool false)) 7 v3) 8 v4) 9 (t 1)) 10 v5) 11 q6.1) 5 q6.1) 12 v7) 13 v8) 14 (t 1)) 15 v9) 16 q10.1) 6 q10.1) 17 v11) 18 v12) 20 v13) 19 v13) 25 v17) 24 v17) 37 v29) 36 v29) 38 v30) 39 v31) 40 q32.1) 41 q32.1
           (gsel q32.1 true
             ((ld true 5 (ptr (n) 0) q32.2.1).bind fun v35 =>
              (fieldA 1 (ptr (n) 0)).bind fun v36 =>
              (ld false 1 v36 q32.2.1).bind fun v37 =>
              (bld [.int .i64 0, .int .i64 0, .string ⟨#[]⟩, .int .i64 0, .int .i64 0] [(0, 1, .int .i64 3), (1, 1, v37)]).bind fun v38 =>
              (binK (.agg [(0, (.int .i64)), (1, (.int .i64)), (2, .string), (3, (.int .i64)), (4, (.int .i64))]) .eql v35 v38).bind fun v39 =>
              some (put (put (put (put (put t34 42 v35) 43 v36) 44 v37) 45 v38) 46 v39, q32.2.1, q32.2.2))
             (some (put (put (put (put (put t34 42 (.tuple #[])) 43 (.tuple #[])) 44 (.tuple #[])) 45 (.tuple #[])) 46 (.tuple #[]), q32.2.1, q32.2.2))
           ).bind fun (q33 : R3) =>
           (pickV (q33.1 41) (q33.1 46) (.bool false)).bind fun v40 =>
           some (v40, q33.2.1, q33.2.2))
          ((binK .plain .eql v12 (.int .i64 4)).bind fun v41 =>
           csel v41
             ((fieldA 2 (ptr (n) 0)).bind fun v42 =>
              (ld false 1 v42 q10.2.1).bind fun v43 =>
              (C 73 [v43] q10.2.1 (q10.2.2 + 21)).bind fun q44 =>
              let t46 : Tm := put (put (put (put (put (put (put (put (put (put (put (put (put (put (put (put (put (put (put (put (put (put (put (put (put (put (put (put t 2 (ptr (n) 0)) 4 (.bool false)) 7 v3) 8 v4) 9 (t 1)) 10 v5) 11 q6.1) 5 q6.1) 12 v7) 13 v8) 14 (t 1)) 15 v9) 16 q10.1) 6 q10.1) 17 v11) 18 v12) 20 v13) 19 v13) 25 v17) 24 v17) 37 v29) 36 v29) 49 v41) 48 v41) 50 v42) 51 v43) 52 q44.1) 53 q44.1
              (gsel q44.1 true
                ((ld true 5 (ptr (n) 0) q44.2.1).bind fun v47 =>
                 (fieldA 2 (ptr (n) 0)).bind fun v48 =>
                 (ld false 1 v48 q44.2.1).bind fun v49 =>
                 (bld [.int .i64 0, .int .i64 0, .string ⟨#[]⟩, .int .i64 0, .int .i64 0] [(0, 1, .int .i64 4), (2, 1, v49)]).bind fun v50 =>
                 (binK (.agg [(0, (.int .i64)), (1, (.int .i64)), (2, .string), (3, (.int .i64)), (4, (.int .i64))]) .eql v47 v50).bind fun v51 =>
                 some (put (put (put (put (put t46 54 v47) 55 v48) 56 v49) 57 v50) 58 v51, q44.2.1, q44.2.2))
                (some (put (put (put (put (put t46 54 (.tuple #[])) 55 (.tuple #[])) 56 (.tuple #[])) 57 (.tuple #[])) 58 (.tuple #[]), q44.2.1, q44.2.2))
              ).bind fun (q45 : R3) =>
              (pickV (q45.1 53) (q45.1 58) (.bool false)).bind fun v52 =>
              some (v52, q45.2.1, q45.2.2))
             ((binK .plain .eql v12 (.int .i64 5)).bind fun v53 =>
              csel v53
                ((pickV q6.1 (gsel q6.1 true q10.1 (.tuple #[])) (.bool false)).bind fun v54 =>
                 let t56 : Tm := put (put (put (put (put (put (put (put (put (put (put (put (put (put (put (put (put (put (put (put (put (put (put (put (put (put (put (put (put (put (put t 2 (ptr (n) 0)) 4 (.bool false)) 7 v3) 8 v4) 9 (t 1)) 10 v5) 11 q6.1) 5 q6.1) 12 v7) 13 v8) 14 (t 1)) 15 v9) 16 q10.1) 6 q10.1) 17 v11) 18 v12) 20 v13) 19 v13) 25 v17) 24 v17) 37 v29) 36 v29) 49 v41) 48 v41) 61 v53) 60 v53) 62 q6.1) 63 q6.1) 64 (gsel q6.1 true q10.1 (.tuple #[]))) 65 v54) 66 v54
                 (gsel v54 true
                   ((fieldA 1 (ptr (n) 0)).bind fun v57 =>
                    (ld false 1 v57 q10.2.1).bind fun v58 =>
                    (binK .plain .eql v58 (.int .i64 0)).bind fun v59 =>
                    some (put (put (put t56 67 v57) 68 v58) 69 v59, q10.2.1, q10.2.2 + 27))
                   (some (put (put (put t56 67 (.tuple #[])) 68 (.tuple #[])) 69 (.tuple #[]), q10.2.1, q10.2.2 + 27))
                 ).bind fun (q55 : R3) =>
                 (pickV (q55.1 66) (q55.1 69) (.bool false)).bind fun v60 =>
                 let t62 : Tm := put (put q55.1 70 v60) 71 v60
                 (gsel v60 true
                   ((fieldA 2 (t62 2)).bind fun v63 =>
                    (ld false 1 v63 q55.2.1).bind fun v64 =>
                    (binK .plain .eql v64 (.string ⟨#[]⟩)).bind fun v65 =>
                    some (put (put (put t62 72 v63) 73 v64) 74 v65, q55.2.1, q55.2.2))
                   (some (put (put (put t62 72 (.tuple #[])) 73 (.tuple #[])) 74 (.tuple #[]), q55.2.1, q55.2.2))
                 ).bind fun (q61 : R3) =>
                 (pickV (q61.1 71) (q61.1 74) (.bool false)).bind fun v66 =>
                 some (v66, q61.2.1, q61.2.2))
                ((binK .plain .eql v12 (.int .i64 6)).bind fun v67 =>
                 csel v67
                   (let t69 : Tm := put (put (put (put (put (put (put (put (put (put (put (put (put (put (put (put (put (put (put (put (put (put (put (put (put (put (put (put (put (put t 2 (ptr (n) 0)) 4 (.bool false)) 7 v3) 8 v4) 9 (t 1)) 10 v5) 11 q6.1) 5 q6.1) 12 v7) 13 v8) 14 (t 1)) 15 v9) 16 q10.1) 6 q10.1) 17 v11) 18 v12) 20 v13) 19 v13) 25 v17) 24 v17) 37 v29) 36 v29) 49 v41) 48 v41) 61 v53) 60 v53) 77 v67) 76 v67) 78 q6.1) 79 q6.1
                    (gsel q6.1 true
                      ((fieldA 1 (ptr (n) 0)).bind fun v70 =>
                       (ld false 1 v70 q10.2.1).bind fun v71 =>
                       (C 51 [v71, .int .i64 0, .int .i64 1000000000] q10.2.1 (q10.2.2 + 31)).bind fun q72 =>
                       some (put (put (put t69 80 v70) 81 v71) 82 q72.1, q72.2.1, q72.2.2))
                      (some (put (put (put t69 80 (.tuple #[])) 81 (.tuple #[])) 82 (.tuple #[]), q10.2.1, q10.2.2 + 31))
                    ).bind fun (q68 : R3) =>
                    (pickV (q68.1 79) (q68.1 82) (.bool false)).bind fun v73 =>
                    let t75 : Tm := put (put q68.1 83 v73) 84 v73
                    (gsel v73 true
                      ((fieldA 4 (t75 2)).bind fun v76 =>
                       (ld false 1 v76 q68.2.1).bind fun v77 =>
                       (binK .plain .eql v77 (.int .i64 0)).bind fun v78 =>
                       some (put (put (put t75 85 v76) 86 v77) 87 v78, q68.2.1, q68.2.2))
                      (some (put (put (put t75 85 (.tuple #[])) 86 (.tuple #[])) 87 (.tuple #[]), q68.2.1, q68.2.2))
                    ).bind fun (q74 : R3) =>
                    (pickV (q74.1 84) (q74.1 87) (.bool false)).bind fun v79 =>
                    let t81 : Tm := put (put q74.1 88 v79) 89 v79
                    (gsel v79 true
                      ((fieldA 2 (t81 2)).bind fun v82 =>
                       (ld false 1 v82 q74.2.1).bind fun v83 =>
                       (binK .plain .eql v83 (.string ⟨#[]⟩)).bind fun v84 =>
                       some (put (put (put t81 90 v82) 91 v83) 92 v84, q74.2.1, q74.2.2))
                      (some (put (put (put t81 90 (.tuple #[])) 91 (.tuple #[])) 92 (.tuple #[]), q74.2.1, q74.2.2))
                    ).bind fun (q80 : R3) =>
                    (pickV (q80.1 89) (q80.1 92) (.bool false)).bind fun v85 =>
                    some (v85, q80.2.1, q80.2.2))
                   ((binK .plain .eql v12 (.int .i64 7)).bind fun v86 =>
                    csel v86
                      (let t88 : Tm := put (put (put (put (put (put (put (put (put (put (put (put (put (put (put (put (put (put (put (put (put (put (put (put (put (put (put (put (put (put (put (put t 2 (ptr (n) 0)) 4 (.bool false)) 7 v3) 8 v4) 9 (t 1)) 10 v5) 11 q6.1) 5 q6.1) 12 v7) 13 v8) 14 (t 1)) 15 v9) 16 q10.1) 6 q10.1) 17 v11) 18 v12) 20 v13) 19 v13) 25 v17) 24 v17) 37 v29) 36 v29) 49 v41) 48 v41) 61 v53) 60 v53) 77 v67) 76 v67) 95 v86) 94 v86) 96 q6.1) 97 q6.1
                       (gsel q6.1 true
                         ((fieldA 1 (ptr (n) 0)).bind fun v89 =>
                          (ld false 1 v89 q10.2.1).bind fun v90 =>
                          (binK .plain .eql v90 (.int .i64 0)).bind fun v91 =>
                          some (put (put (put t88 98 v89) 99 v90) 100 v91, q10.2.1, q10.2.2 + 33))
                         (some (put (put (put t88 98 (.tuple #[])) 99 (.tuple #[])) 100 (.tuple #[]), q10.2.1, q10.2.2 + 33))
                       ).bind fun (q87 : R3) =>
                       (pickV (q87.1 97) (q87.1 100) (.bool false)).bind fun v92 =>
                       let t94 : Tm := put (put q87.1 101 v92) 102 v92
                       (gsel v92 true
                         ((fieldA 4 (t94 2)).bind fun v95 =>
                          (ld false 1 v95 q87.2.1).bind fun v96 =>
                          (binK .plain .eql v96 (.int .i64 0)).bind fun v97 =>
                          some (put (put (put t94 103 v95) 104 v96) 105 v97, q87.2.1, q87.2.2))
                         (some (put (put (put t94 103 (.tuple #[])) 104 (.tuple #[])) 105 (.tuple #[]), q87.2.1, q87.2.2))
                       ).bind fun (q93 : R3) =>
                       (pickV (q93.1 102) (q93.1 105) (.bool false)).bind fun v98 =>
                       let t100 : Tm := put (put q93.1 106 v98) 107 v98
                       (gsel v98 true
                         ((fieldA 2 (t100 2)).bind fun v101 =>
                          (ld false 1 v101 q93.2.1).bind fun v102 =>
                          (binK .plain .eql v102 (.string ⟨#[]⟩)).bind fun v103 =>
                          some (put (put (put t100 108 v101) 109 v102) 110 v103, q93.2.1, q93.2.2))
                         (some (put (put (put t100 108 (.tuple #[])) 109 (.tuple #[])) 110 (.tuple #[]), q93.2.1, q93.2.2))
                       ).bind fun (q99 : R3) =>
                       (pickV (q99.1 107) (q99.1 110) (.bool false)).bind fun v104 =>
                       some (v104, q99.2.1, q99.2.2))
                      ((binK .plain .eql v12 (.int .i64 8)).bind fun v105 =>
                       csel v105
                         ((fieldA 1 (ptr (n) 0)).bind fun v106 =>
                          (ld false 1 v106 q10.2.1).bind fun v107 =>
                          (C 51 [v107, .int .i64 0, .int .i64 99] q10.2.1 (q10.2.2 + 29)).bind fun q108 =>
                          let t110 : Tm := put (put (put (put (put (put (put (put (put (put (put (put (put (put (put (put (put (put (put (put (put (put (put (put (put (put (put (put (put (put (put (put (put (put (put (put t 2 (ptr (n) 0)) 4 (.bool false)) 7 v3) 8 v4) 9 (t 1)) 10 v5) 11 q6.1) 5 q6.1) 12 v7) 13 v8) 14 (t 1)) 15 v9) 16 q10.1) 6 q10.1) 17 v11) 18 v12) 20 v13) 19 v13) 25 v17) 24 v17) 37 v29) 36 v29) 49 v41) 48 v41) 61 v53) 60 v53) 77 v67) 76 v67) 95 v86) 94 v86) 113 v105) 112 v105) 114 v106) 115 v107) 116 q108.1) 117 q108.1
                          (gsel q108.1 true
                            ((ld true 5 (ptr (n) 0) q108.2.1).bind fun v111 =>
                             (fieldA 1 (ptr (n) 0)).bind fun v112 =>
                             (ld false 1 v112 q108.2.1).bind fun v113 =>
                             (bld [.int .i64 0, .int .i64 0, .string ⟨#[]⟩, .int .i64 0, .int .i64 0] [(0, 1, .int .i64 8), (1, 1, v113)]).bind fun v114 =>
                             (binK (.agg [(0, (.int .i64)), (1, (.int .i64)), (2, .string), (3, (.int .i64)), (4, (.int .i64))]) .eql v111 v114).bind fun v115 =>
                             some (put (put (put (put (put t110 118 v111) 119 v112) 120 v113) 121 v114) 122 v115, q108.2.1, q108.2.2))
                            (some (put (put (put (put (put t110 118 (.tuple #[])) 119 (.tuple #[])) 120 (.tuple #[])) 121 (.tuple #[])) 122 (.tuple #[]), q108.2.1, q108.2.2))
                          ).bind fun (q109 : R3) =>
                          (pickV (q109.1 117) (q109.1 122) (.bool false)).bind fun v116 =>
                          some (v116, q109.2.1, q109.2.2))
                         ((binK .plain .eql v12 (.int .i64 9)).bind fun v117 =>
                          csel v117
                            ((fieldA 1 (ptr (n) 0)).bind fun v118 =>
                             (ld false 1 v118 q10.2.1).bind fun v119 =>
                             (C 51 [v119, .int .i64 0, .int .i64 1000000000] q10.2.1 (q10.2.2 + 31)).bind fun q120 =>
                             let t122 : Tm := put (put (put (put (put (put (put (put (put (put (put (put (put (put (put (put (put (put (put (put (put (put (put (put (put (put (put (put (put (put (put (put (put (put (put (put (put (put t 2 (ptr (n) 0)) 4 (.bool false)) 7 v3) 8 v4) 9 (t 1)) 10 v5) 11 q6.1) 5 q6.1) 12 v7) 13 v8) 14 (t 1)) 15 v9) 16 q10.1) 6 q10.1) 17 v11) 18 v12) 20 v13) 19 v13) 25 v17) 24 v17) 37 v29) 36 v29) 49 v41) 48 v41) 61 v53) 60 v53) 77 v67) 76 v67) 95 v86) 94 v86) 113 v105) 112 v105) 125 v117) 124 v117) 126 v118) 127 v119) 128 q120.1) 129 q120.1
                             (gsel q120.1 true
                               ((ld true 5 (ptr (n) 0) q120.2.1).bind fun v123 =>
                                (fieldA 1 (ptr (n) 0)).bind fun v124 =>
                                (ld false 1 v124 q120.2.1).bind fun v125 =>
                                (bld [.int .i64 0, .int .i64 0, .string ⟨#[]⟩, .int .i64 0, .int .i64 0] [(0, 1, .int .i64 9), (1, 1, v125)]).bind fun v126 =>
                                (binK (.agg [(0, (.int .i64)), (1, (.int .i64)), (2, .string), (3, (.int .i64)), (4, (.int .i64))]) .eql v123 v126).bind fun v127 =>
                                some (put (put (put (put (put t122 130 v123) 131 v124) 132 v125) 133 v126) 134 v127, q120.2.1, q120.2.2))
                               (some (put (put (put (put (put t122 130 (.tuple #[])) 131 (.tuple #[])) 132 (.tuple #[])) 133 (.tuple #[])) 134 (.tuple #[]), q120.2.1, q120.2.2))
                             ).bind fun (q121 : R3) =>
                             (pickV (q121.1 129) (q121.1 134) (.bool false)).bind fun v128 =>
                             some (v128, q121.2.1, q121.2.2))
                            (some (.bool false, q10.2.1, q10.2.2 + 21))))))))))
theorem s50 (C : Calling) (L : Body → Body) (t : Tm) (H : Hp) (n : Nat) : bodyK Try.prog C L Try.f50 t H n = S50 C L t H n := by kernel_rfl
theorem c50 (args : List Value) (H : Hp) (n : Nat) : Call Try.prog 50 args H n = S50 (Call Try.prog) Loop (argsT args) H n := (Call_body Try.func50 args H n).trans (s50 ..)
/-! 51: spec.l1In -/
noncomputable def S51 (C : Calling) (L : Body → Body) (t : Tm) (H : Hp) (n : Nat) : Option (Value × Hp × Nat) :=
  (binK .plain .geq (t 0) (t 1)).bind fun v1 =>
  let t3 : Tm := put (put (put (put (put t 6 (.bool false)) 7 (t 0)) 8 (t 1)) 9 v1) 10 v1
  (gsel v1 true
    ((binK .plain .leq (t3 0) (t3 2)).bind fun v4 =>
     some (put (put (put t3 11 (t3 0)) 12 (t3 2)) 13 v4, H, n + 10))
    (some (put (put (put t3 11 (.tuple #[])) 12 (.tuple #[])) 13 (.tuple #[]), H, n + 10))
  ).bind fun (q2 : R3) =>
  (pickV (q2.1 10) (q2.1 13) (.bool false)).bind fun v5 =>
  some (v5, q2.2.1, q2.2.2)
theorem s51 (C : Calling) (L : Body → Body) (t : Tm) (H : Hp) (n : Nat) : bodyK Try.prog C L Try.f51 t H n = S51 C L t H n := by kernel_rfl
theorem c51 (args : List Value) (H : Hp) (n : Nat) : Call Try.prog 51 args H n = S51 (Call Try.prog) Loop (argsT args) H n := (Call_body Try.func51 args H n).trans (s51 ..)
/-! 53: laws.toNode -/
noncomputable def S53 (C : Calling) (L : Body → Body) (t : Tm) (H : Hp) (n : Nat) : Option (Value × Hp × Nat) :=
  (vcells (t 0)).bind fun c2 =>
  let H1 := H.set (n) (some (.row c2 0 true))
  let H3 := H1.set (n + 1) (some (.row [.int .i64 0, .int .i64 0, .string ⟨#[]⟩, .int .i64 0, .int .i64 0] 0 true))
  let H4 := H3.set (n + 2) (some (.row [.int .i64 0, .int .i64 0, .string ⟨#[]⟩, .int .i64 0, .int .i64 0] 0 true))
  (fieldA 0 (ptr (n) 0)).bind fun v5 =>
  (ld false 1 v5 H4).bind fun v6 =>
  (fieldA 0 (ptr (n + 2) 0)).bind fun v7 =>
  (st false 1 v7 v6 H4).bind fun H8 =>
  (fieldA 1 (ptr (n) 0)).bind fun v9 =>
  (ld false 1 v9 H8).bind fun v10 =>
  (fieldA 1 (ptr (n + 2) 0)).bind fun v11 =>
  (st false 1 v11 v10 H8).bind fun H12 =>
  (fieldA 2 (ptr (n) 0)).bind fun v13 =>
  (ld false 1 v13 H12).bind fun v14 =>
  (fieldA 2 (ptr (n + 2) 0)).bind fun v15 =>
  (st false 1 v15 v14 H12).bind fun H16 =>
  (fieldA 3 (ptr (n) 0)).bind fun v17 =>
  (ld false 1 v17 H16).bind fun v18 =>
  (fieldA 3 (ptr (n + 2) 0)).bind fun v19 =>
  (st false 1 v19 v18 H16).bind fun H20 =>
  (fieldA 4 (ptr (n) 0)).bind fun v21 =>
  (ld false 1 v21 H20).bind fun v22 =>
  (fieldA 4 (ptr (n + 2) 0)).bind fun v23 =>
  (st false 1 v23 v22 H20).bind fun H24 =>
  (ld true 5 (ptr (n + 2) 0) H24).bind fun v25 =>
  (st true 5 (ptr (n + 1) 0) v25 H24).bind fun H26 =>
  (ld true 5 (ptr (n + 1) 0) H26).bind fun v27 =>
  some (v27, H26, n + 25)
theorem s53 (C : Calling) (L : Body → Body) (t : Tm) (H : Hp) (n : Nat) : bodyK Try.prog C L Try.f53 t H n = S53 C L t H n := by kernel_rfl
theorem c53 (args : List Value) (H : Hp) (n : Nat) : Call Try.prog 53 args H n = S53 (Call Try.prog) Loop (argsT args) H n := (Call_body Try.func53 args H n).trans (s53 ..)
/-! 54: impl.within -/
noncomputable def S54 (C : Calling) (L : Body → Body) (t : Tm) (H : Hp) (n : Nat) : Option (Value × Hp × Nat) :=
  (binK .plain .geq (t 0) (t 1)).bind fun v1 =>
  let t3 : Tm := put (put (put (put (put t 6 (.bool false)) 7 (t 0)) 8 (t 1)) 9 v1) 10 v1
  (gsel v1 true
    ((binK .plain .leq (t3 0) (t3 2)).bind fun v4 =>
     some (put (put (put t3 11 (t3 0)) 12 (t3 2)) 13 v4, H, n + 10))
    (some (put (put (put t3 11 (.tuple #[])) 12 (.tuple #[])) 13 (.tuple #[]), H, n + 10))
  ).bind fun (q2 : R3) =>
  (pickV (q2.1 10) (q2.1 13) (.bool false)).bind fun v5 =>
  some (v5, q2.2.1, q2.2.2)
theorem s54 (C : Calling) (L : Body → Body) (t : Tm) (H : Hp) (n : Nat) : bodyK Try.prog C L Try.f54 t H n = S54 C L t H n := by kernel_rfl
theorem c54 (args : List Value) (H : Hp) (n : Nat) : Call Try.prog 54 args H n = S54 (Call Try.prog) Loop (argsT args) H n := (Call_body Try.func54 args H n).trans (s54 ..)
/-! 58: laws.eqNode -/
noncomputable def S58 (C : Calling) (L : Body → Body) (t : Tm) (H : Hp) (n : Nat) : Option (Value × Hp × Nat) :=
  (vcells (t 0)).bind fun c2 =>
  let H1 := H.set (n) (some (.row c2 0 true))
  (vcells (t 1)).bind fun c4 =>
  let H3 := H1.set (n + 1) (some (.row c4 0 true))
  (fieldA 0 (ptr (n) 0)).bind fun v5 =>
  (ld false 1 v5 H3).bind fun v6 =>
  (fieldA 0 (ptr (n + 1) 0)).bind fun v7 =>
  (ld false 1 v7 H3).bind fun v8 =>
  (binK .plain .neq v6 v8).bind fun v9 =>
  csel v9
    (some (.bool false, H3, n + 9))
    ((fieldA 1 (ptr (n) 0)).bind fun v10 =>
     (ld false 1 v10 H3).bind fun v11 =>
     (fieldA 1 (ptr (n + 1) 0)).bind fun v12 =>
     (ld false 1 v12 H3).bind fun v13 =>
     (binK .plain .neq v11 v13).bind fun v14 =>
     csel v14
       (some (.bool false, H3, n + 14))
       ((fieldA 2 (ptr (n) 0)).bind fun v15 =>
        (ld false 1 v15 H3).bind fun v16 =>
        (fieldA 2 (ptr (n + 1) 0)).bind fun v17 =>
        (ld false 1 v17 H3).bind fun v18 =>
        (binK .plain .neq v16 v18).bind fun v19 =>
        csel v19
          (some (.bool false, H3, n + 19))
          ((fieldA 3 (ptr (n) 0)).bind fun v20 =>
           (ld false 1 v20 H3).bind fun v21 =>
           (fieldA 3 (ptr (n + 1) 0)).bind fun v22 =>
           (ld false 1 v22 H3).bind fun v23 =>
           (binK .plain .neq v21 v23).bind fun v24 =>
           csel v24
             (some (.bool false, H3, n + 24))
             ((fieldA 4 (ptr (n) 0)).bind fun v25 =>
              (ld false 1 v25 H3).bind fun v26 =>
              (fieldA 4 (ptr (n + 1) 0)).bind fun v27 =>
              (ld false 1 v27 H3).bind fun v28 =>
              (binK .plain .neq v26 v28).bind fun v29 =>
              csel v29
                (some (.bool false, H3, n + 29))
                (some (.bool true, H3, n + 29))))))
theorem s58 (C : Calling) (L : Body → Body) (t : Tm) (H : Hp) (n : Nat) : bodyK Try.prog C L Try.f58 t H n = S58 C L t H n := by kernel_rfl
theorem c58 (args : List Value) (H : Hp) (n : Nat) : Call Try.prog 58 args H n = S58 (Call Try.prog) Loop (argsT args) H n := (Call_body Try.func58 args H n).trans (s58 ..)
/-! 59: spec.l7Into -/
noncomputable def S59L0 (C : Calling) (L : Body → Body) : Body := fun t H n =>
  (fieldA 0 (t 4)).bind fun v8 =>
  (ld false 1 v8 H).bind fun v9 =>
  (lenV false v9).bind fun v10 =>
  (binK .plain .lss (t 8) v10).bind fun v11 =>
  csel v11
    (let t13 : Tm := put (put (put (put (put t 14 (t 8)) 15 v8) 16 v9) 17 v10) 18 v11
     Option.bind
       ((idxA 1 (t13 2) (t13 8)).bind fun v14 =>
        (ld false 1 v14 H).bind fun v15 =>
        (un .not v15).bind fun v16 =>
        csel v16
          (some ⟨(.exit 1), put (put (put (put (put t13 21 (t13 2)) 22 (t13 8)) 23 v14) 24 v15) 25 v16, H, n + 10⟩)
          ((fieldA 0 (t13 4)).bind fun v17 =>
           (ld false 1 v17 H).bind fun v18 =>
           (idxA 5 v18 (t13 8)).bind fun v19 =>
           (ld true 5 v19 H).bind fun v20 =>
           let H21 := H.set (n + 15) (some (.row [.int .i64 0, .int .i64 0, .string ⟨#[]⟩, .int .i64 0, .int .i64 0] 0 true))
           (st true 5 (ptr (n + 15) 0) v20 H21).bind fun H22 =>
           (fieldA 0 (ptr (n + 15) 0)).bind fun v23 =>
           (ld false 1 v23 H22).bind fun v24 =>
           (binK .plain .eql v24 (.int .i64 5)).bind fun v25 =>
           let t27 : Tm := put (put (put (put (put (put (put (put (put (put (put (put (put (put (put t13 21 (t13 2)) 22 (t13 8)) 23 v14) 24 v15) 25 v16) 26 v17) 27 v18) 28 (t13 8)) 29 v19) 30 v20) 9 (ptr (n + 15) 0)) 31 v23) 32 v24) 34 v25) 33 v25
           (csel v25
             ((fieldA 3 (ptr (n + 15) 0)).bind fun v28 =>
              (ld false 1 v28 H22).bind fun v29 =>
              (idxA 1 (t27 7) v29).bind fun v30 =>
              (ld false 1 v30 H22).bind fun v31 =>
              (fieldA 3 (ptr (n + 15) 0)).bind fun v32 =>
              (st false 1 v32 v31 H22).bind fun H33 =>
              (fieldA 4 (ptr (n + 15) 0)).bind fun v34 =>
              (ld false 1 v34 H33).bind fun v35 =>
              (idxA 1 (t27 7) v35).bind fun v36 =>
              (ld false 1 v36 H33).bind fun v37 =>
              (fieldA 4 (ptr (n + 15) 0)).bind fun v38 =>
              (st false 1 v38 v37 H33).bind fun H39 =>
              some ⟨.normal, put (put (put (put (put (put (put (put (put (put (put (put t27 35 (t27 7)) 36 v28) 37 v29) 38 v30) 39 v31) 40 v32) 41 (t27 7)) 42 v34) 43 v35) 44 v36) 45 v37) 46 v38, H39, n + 35⟩)
             ((binK .plain .eql v24 (.int .i64 6)).bind fun v40 =>
              let t42 : Tm := put (put t27 48 v40) 47 v40
              (csel v40
                (some ⟨.normal, t42, H22, n + 23⟩)
                ((binK .plain .eql v24 (.int .i64 7)).bind fun v43 =>
                 some ⟨.normal, put (put t42 49 v43) 47 v43, H22, n + 25⟩)
              ).bind fun (o41 : Out) =>
              (csel (o41.t 47)
                ((fieldA 3 (o41.t 9)).bind fun v46 =>
                 (ld false 1 v46 o41.H).bind fun v47 =>
                 (idxA 1 (o41.t 7) v47).bind fun v48 =>
                 (ld false 1 v48 o41.H).bind fun v49 =>
                 (fieldA 3 (o41.t 9)).bind fun v50 =>
                 (st false 1 v50 v49 o41.H).bind fun H51 =>
                 some ⟨.normal, put (put (put (put (put (put o41.t 50 (o41.t 7)) 51 v46) 52 v47) 53 v48) 54 v49) 55 v50, H51, o41.n + 7⟩)
                (some ⟨.normal, o41.t, o41.H, o41.n⟩)
              ).bind fun (o44 : Out) =>
              some ⟨.normal, o44.t, o44.H, o44.n⟩)
           ).bind fun (o26 : Out) =>
           (ld true 5 (o26.t 9) o26.H).bind fun v52 =>
           (C 40 [o26.t 0, v52] o26.H (o26.n + 7)).bind fun q53 =>
           (idxA 1 (o26.t 7) (o26.t 8)).bind fun v54 =>
           (st false 1 v54 q53.1 q53.2.1).bind fun H55 =>
           some ⟨.normal, put (put (put (put (put (put o26.t 56 (o26.t 7)) 57 (o26.t 8)) 58 (o26.t 0)) 59 v52) 60 q53.1) 61 v54, H55, q53.2.2⟩))
     fun (o12 : Out) =>
     (binK .plain .add (o12.t 8) (.int .i64 1)).bind fun v56 =>
     some ⟨.normal, put (put (put o12.t 19 (o12.t 8)) 20 v56) 8 v56, o12.H, o12.n + 3⟩)
    (some ⟨(.exit 0), put (put (put (put (put t 14 (t 8)) 15 v8) 16 v9) 17 v10) 18 v11, H, n + 5⟩)
noncomputable def S59 (C : Calling) (L : Body → Body) (t : Tm) (H : Hp) (n : Nat) : Option (Value × Hp × Nat) :=
  (vcells (t 1)).bind fun c2 =>
  let H1 := H.set (n) (some (.row c2 0 true))
  (fieldA 0 (ptr (n) 0)).bind fun v3 =>
  (ld false 1 v3 H1).bind fun v4 =>
  (lenV false v4).bind fun v5 =>
  (mks (n + 5) 1 8 [.int .i64 0] v5 v5 H1).bind fun p6 =>
  (L (S59L0 C L) (put (put (put (put (put (put (put (put t 4 (ptr (n) 0)) 6 nilS) 10 v3) 11 v4) 12 v5) 13 p6.1) 7 p6.1) 8 (.int .i64 0)) p6.2 (n + 8)).bind fun (o7 : Out) =>
  some (o7.t 7, o7.H, o7.n + 2)
theorem s59 (C : Calling) (L : Body → Body) (t : Tm) (H : Hp) (n : Nat) : bodyK Try.prog C L Try.f59 t H n = S59 C L t H n := by kernel_rfl
theorem c59 (args : List Value) (H : Hp) (n : Nat) : Call Try.prog 59 args H n = S59 (Call Try.prog) Loop (argsT args) H n := (Call_body Try.func59 args H n).trans (s59 ..)
/-! 60: spec.l7Reach -/
noncomputable def S60L1 (C : Calling) (L : Body → Body) : Body := fun t H n =>
  (binK .plain .geq (t 7) (.int .i64 0)).bind fun v20 =>
  csel v20
    (let t22 : Tm := put (put t 29 (t 7)) 30 v20
     Option.bind
       ((fieldA 0 (t22 2)).bind fun v23 =>
        (ld false 1 v23 H).bind fun v24 =>
        (idxA 5 v24 (t22 7)).bind fun v25 =>
        (ld true 5 v25 H).bind fun v26 =>
        let H27 := H.set (n + 7) (some (.row [.int .i64 0, .int .i64 0, .string ⟨#[]⟩, .int .i64 0, .int .i64 0] 0 true))
        (st true 5 (ptr (n + 7) 0) v26 H27).bind fun H28 =>
        (idxA 1 (t22 5) (t22 7)).bind fun v29 =>
        (ld false 1 v29 H28).bind fun v30 =>
        (un .not v30).bind fun v31 =>
        csel v31
          (some ⟨(.exit 3), put (put (put (put (put (put (put (put (put (put (put t22 33 v23) 34 v24) 35 (t22 7)) 36 v25) 37 v26) 8 (ptr (n + 7) 0)) 38 (t22 5)) 39 (t22 7)) 40 v29) 41 v30) 42 v31, H28, n + 14⟩)
          ((fieldA 0 (ptr (n + 7) 0)).bind fun v32 =>
           (ld false 1 v32 H28).bind fun v33 =>
           (binK .plain .eql v33 (.int .i64 5)).bind fun v34 =>
           let t36 : Tm := put (put (put (put (put (put (put (put (put (put (put (put (put (put (put t22 33 v23) 34 v24) 35 (t22 7)) 36 v25) 37 v26) 8 (ptr (n + 7) 0)) 38 (t22 5)) 39 (t22 7)) 40 v29) 41 v30) 42 v31) 43 v32) 44 v33) 46 v34) 45 v34
           (csel v34
             ((fieldA 3 (ptr (n + 7) 0)).bind fun v37 =>
              (ld false 1 v37 H28).bind fun v38 =>
              (idxA 1 (t36 5) v38).bind fun v39 =>
              (st false 1 v39 (.bool true) H28).bind fun H40 =>
              (fieldA 4 (ptr (n + 7) 0)).bind fun v41 =>
              (ld false 1 v41 H40).bind fun v42 =>
              (idxA 1 (t36 5) v42).bind fun v43 =>
              (st false 1 v43 (.bool true) H40).bind fun H44 =>
              some ⟨.normal, put (put (put (put (put (put (put (put t36 47 (t36 5)) 48 v37) 49 v38) 50 v39) 51 (t36 5)) 52 v41) 53 v42) 54 v43, H44, n + 28⟩)
             ((binK .plain .eql v33 (.int .i64 6)).bind fun v45 =>
              let t47 : Tm := put (put t36 56 v45) 55 v45
              (csel v45
                (some ⟨.normal, t47, H28, n + 20⟩)
                ((binK .plain .eql v33 (.int .i64 7)).bind fun v48 =>
                 some ⟨.normal, put (put t47 57 v48) 55 v48, H28, n + 22⟩)
              ).bind fun (o46 : Out) =>
              (csel (o46.t 55)
                ((fieldA 3 (o46.t 8)).bind fun v51 =>
                 (ld false 1 v51 o46.H).bind fun v52 =>
                 (idxA 1 (o46.t 5) v52).bind fun v53 =>
                 (st false 1 v53 (.bool true) o46.H).bind fun H54 =>
                 some ⟨.normal, put (put (put (put o46.t 58 (o46.t 5)) 59 v51) 60 v52) 61 v53, H54, o46.n + 5⟩)
                (some ⟨.normal, o46.t, o46.H, o46.n⟩)
              ).bind fun (o49 : Out) =>
              some ⟨.normal, o49.t, o49.H, o49.n⟩)
           ).bind fun (o35 : Out) =>
           some ⟨.normal, o35.t, o35.H, o35.n⟩))
     fun (o21 : Out) =>
     (binK .plain .sub (o21.t 7) (.int .i64 1)).bind fun v55 =>
     some ⟨.normal, put (put (put o21.t 31 (o21.t 7)) 32 v55) 7 v55, o21.H, o21.n + 3⟩)
    (some ⟨(.exit 2), put (put t 29 (t 7)) 30 v20, H, n + 2⟩)
noncomputable def S60L0 (C : Calling) (L : Body → Body) : Body := fun t H n =>
  (lenV false (t 1)).bind fun v8 =>
  (binK .plain .lss (t 6) v8).bind fun v9 =>
  csel v9
    ((idxA 1 (t 1) (t 6)).bind fun v10 =>
     (ld false 1 v10 H).bind fun v11 =>
     (idxA 1 (t 5) v11).bind fun v12 =>
     (st false 1 v12 (.bool true) H).bind fun H13 =>
     (binK .plain .add (t 6) (.int .i64 1)).bind fun v14 =>
     some ⟨.normal, put (put (put (put (put (put (put (put (put (put (put (put (put t 13 (t 6)) 14 (t 1)) 15 v8) 16 v9) 19 (t 5)) 20 (t 1)) 21 (t 6)) 22 v10) 23 v11) 24 v12) 17 (t 6)) 18 v14) 6 v14, H13, n + 14⟩)
    (some ⟨(.exit 0), put (put (put (put t 13 (t 6)) 14 (t 1)) 15 v8) 16 v9, H, n + 4⟩)
noncomputable def S60 (C : Calling) (L : Body → Body) (t : Tm) (H : Hp) (n : Nat) : Option (Value × Hp × Nat) :=
  (vcells (t 0)).bind fun c2 =>
  let H1 := H.set (n) (some (.row c2 0 true))
  (fieldA 0 (ptr (n) 0)).bind fun v3 =>
  (ld false 1 v3 H1).bind fun v4 =>
  (lenV false v4).bind fun v5 =>
  (mks (n + 5) 1 1 [.bool false] v5 v5 H1).bind fun p6 =>
  (L (S60L0 C L) (put (put (put (put (put (put (put (put t 2 (ptr (n) 0)) 4 nilS) 9 v3) 10 v4) 11 v5) 12 p6.1) 5 p6.1) 6 (.int .i64 0)) p6.2 (n + 8)).bind fun (o7 : Out) =>
  (fieldA 0 (o7.t 2)).bind fun v15 =>
  (ld false 1 v15 o7.H).bind fun v16 =>
  (lenV false v16).bind fun v17 =>
  (binK .plain .sub v17 (.int .i64 1)).bind fun v18 =>
  (L (S60L1 C L) (put (put (put (put (put o7.t 25 v15) 26 v16) 27 v17) 28 v18) 7 v18) o7.H (o7.n + 5)).bind fun (o19 : Out) =>
  some (o19.t 5, o19.H, o19.n + 2)
theorem s60 (C : Calling) (L : Body → Body) (t : Tm) (H : Hp) (n : Nat) : bodyK Try.prog C L Try.f60 t H n = S60 C L t H n := by kernel_rfl
theorem c60 (args : List Value) (H : Hp) (n : Nat) : Call Try.prog 60 args H n = S60 (Call Try.prog) Loop (argsT args) H n := (Call_body Try.func60 args H n).trans (s60 ..)
/-! 61: spec.PutNum -/
noncomputable def S61L0 (C : Calling) (L : Body → Body) : Body := fun t H n =>
  (binK .plain .gtr (t 0) (.int .i64 127)).bind fun v4 =>
  csel v4
    ((binK .plain .rem (t 0) (.int .i64 128)).bind fun v5 =>
     (binK .plain .add v5 (.int .i64 128)).bind fun v6 =>
     (conv (.toInt .u8) (n + 6) v6 H).bind fun p7 =>
     (bsl (n + 7) 1 1 [.int .u8 0] [(0, 1, p7.1)] p7.2).bind fun p8 =>
     (app (n + 8) 1 1 (t 3) p8.1 p8.2).bind fun p9 =>
     (binK .plain .quo (t 0) (.int .i64 128)).bind fun v10 =>
     some ⟨.normal, put (put (put (put (put (put (put (put (put (put (put (put (put t 8 (t 0)) 9 v4) 10 (t 3)) 11 (t 0)) 12 v5) 13 v6) 14 p7.1) 15 p8.1) 16 p9.1) 3 p9.1) 17 (t 0)) 18 v10) 0 v10, p9.2, n + 13⟩)
    (some ⟨(.exit 0), put (put t 8 (t 0)) 9 v4, H, n + 2⟩)
noncomputable def S61 (C : Calling) (L : Body → Body) (t : Tm) (H : Hp) (n : Nat) : Option (Value × Hp × Nat) :=
  (bsl (n + 1) 1 0 [.int .u8 0] [] H).bind fun p1 =>
  (binK .plain .lss (t 0) (.int .i64 0)).bind fun v2 =>
  csel v2
    (some (p1.1, p1.2, n + 7))
    ((L (S61L0 C L) (put (put (put (put (put t 2 nilS) 4 p1.1) 3 p1.1) 5 (t 0)) 6 v2) p1.2 (n + 5)).bind fun (o3 : Out) =>
     (conv (.toInt .u8) (o3.n + 2) (o3.t 0) o3.H).bind fun p11 =>
     (bsl (o3.n + 3) 1 1 [.int .u8 0] [(0, 1, p11.1)] p11.2).bind fun p12 =>
     (app (o3.n + 4) 1 1 (o3.t 3) p12.1 p12.2).bind fun p13 =>
     some (p13.1, p13.2, o3.n + 6))
theorem s61 (C : Calling) (L : Body → Body) (t : Tm) (H : Hp) (n : Nat) : bodyK Try.prog C L Try.f61 t H n = S61 C L t H n := by kernel_rfl
theorem c61 (args : List Value) (H : Hp) (n : Nat) : Call Try.prog 61 args H n = S61 (Call Try.prog) Loop (argsT args) H n := (Call_body Try.func61 args H n).trans (s61 ..)
/-! 62: spec.PutText -/
noncomputable def S62 (C : Calling) (L : Body → Body) (t : Tm) (H : Hp) (n : Nat) : Option (Value × Hp × Nat) :=
  (lenV true (t 0)).bind fun v1 =>
  (C 61 [v1] H (n + 8)).bind fun q2 =>
  (conv .strToBytes (n + 5) (t 0) q2.2.1).bind fun p3 =>
  (app (n + 6) 1 1 q2.1 p3.1 p3.2).bind fun p4 =>
  some (p4.1, p4.2, q2.2.2)
theorem s62 (C : Calling) (L : Body → Body) (t : Tm) (H : Hp) (n : Nat) : bodyK Try.prog C L Try.f62 t H n = S62 C L t H n := by kernel_rfl
theorem c62 (args : List Value) (H : Hp) (n : Nat) : Call Try.prog 62 args H n = S62 (Call Try.prog) Loop (argsT args) H n := (Call_body Try.func62 args H n).trans (s62 ..)
/-! 63: impl.Pool).moveIn -/
noncomputable def S63L0 (C : Calling) (L : Body → Body) : Body := fun t H n =>
  (binK .plain .lss (t 21) (t 20)).bind fun v13 =>
  csel v13
    (let t15 : Tm := put t 22 v13
     Option.bind
       ((idxA 5 (t15 19) (t15 21)).bind fun v16 =>
        (ld true 5 v16 H).bind fun v17 =>
        let H18 := H.set (n + 4) (some (.row [.int .i64 0, .int .i64 0, .string ⟨#[]⟩, .int .i64 0, .int .i64 0] 0 true))
        (st true 5 (ptr (n + 4) 0) v17 H18).bind fun H19 =>
        (idxA 1 (t15 7) (t15 21)).bind fun v20 =>
        (st false 1 v20 (.int .i64 (-1)) H19).bind fun H21 =>
        (idxA 1 (t15 8) (t15 21)).bind fun v22 =>
        (ld false 1 v22 H21).bind fun v23 =>
        (un .not v23).bind fun v24 =>
        csel v24
          (some ⟨(.exit 1), put (put (put (put (put (put (put (put (put (put (put (put (put t15 23 (t15 21)) 24 v16) 25 v17) 10 (ptr (n + 4) 0)) 9 (t15 21)) 26 (t15 7)) 27 (t15 21)) 28 v20) 29 (t15 8)) 30 (t15 21)) 31 v22) 32 v23) 33 v24, H21, n + 16⟩)
          ((fieldA 0 (ptr (n + 4) 0)).bind fun v25 =>
           (ld false 1 v25 H21).bind fun v26 =>
           (binK .plain .eql v26 (.int .i64 5)).bind fun v27 =>
           let t29 : Tm := put (put (put (put (put (put (put (put (put (put (put (put (put (put (put (put (put t15 23 (t15 21)) 24 v16) 25 v17) 10 (ptr (n + 4) 0)) 9 (t15 21)) 26 (t15 7)) 27 (t15 21)) 28 v20) 29 (t15 8)) 30 (t15 21)) 31 v22) 32 v23) 33 v24) 34 v25) 35 v26) 37 v27) 36 v27
           (csel v27
             ((fieldA 3 (ptr (n + 4) 0)).bind fun v30 =>
              (ld false 1 v30 H21).bind fun v31 =>
              (idxA 1 (t29 7) v31).bind fun v32 =>
              (ld false 1 v32 H21).bind fun v33 =>
              (fieldA 4 (ptr (n + 4) 0)).bind fun v34 =>
              (ld false 1 v34 H21).bind fun v35 =>
              (idxA 1 (t29 7) v35).bind fun v36 =>
              (ld false 1 v36 H21).bind fun v37 =>
              (fieldA 3 (ptr (n + 4) 0)).bind fun v38 =>
              (st false 1 v38 v33 H21).bind fun H39 =>
              ask (ld false 1 v36 H39 = some v37) <|
              (fieldA 4 (ptr (n + 4) 0)).bind fun v40 =>
              (st false 1 v40 v37 H39).bind fun H41 =>
              some ⟨.normal, put (put (put (put (put (put (put (put (put (put (put (put t29 38 (t29 7)) 39 v30) 40 v31) 41 v32) 42 v33) 43 (t29 7)) 44 v34) 45 v35) 46 v36) 47 v37) 48 v38) 49 v40, H41, n + 34⟩)
             ((binK .plain .eql v26 (.int .i64 6)).bind fun v42 =>
              let t44 : Tm := put (put t29 51 v42) 50 v42
              (csel v42
                (some ⟨.normal, t44, H21, n + 22⟩)
                ((binK .plain .eql v26 (.int .i64 7)).bind fun v45 =>
                 some ⟨.normal, put (put t44 52 v45) 50 v45, H21, n + 24⟩)
              ).bind fun (o43 : Out) =>
              (csel (o43.t 50)
                ((fieldA 3 (o43.t 10)).bind fun v48 =>
                 (ld false 1 v48 o43.H).bind fun v49 =>
                 (idxA 1 (o43.t 7) v49).bind fun v50 =>
                 (ld false 1 v50 o43.H).bind fun v51 =>
                 (fieldA 3 (o43.t 10)).bind fun v52 =>
                 (st false 1 v52 v51 o43.H).bind fun H53 =>
                 some ⟨.normal, put (put (put (put (put (put o43.t 53 (o43.t 7)) 54 v48) 55 v49) 56 v50) 57 v51) 58 v52, H53, o43.n + 7⟩)
                (some ⟨.normal, o43.t, o43.H, o43.n⟩)
              ).bind fun (o46 : Out) =>
              some ⟨.normal, o46.t, o46.H, o46.n⟩)
           ).bind fun (o28 : Out) =>
           (ld true 5 (o28.t 10) o28.H).bind fun v54 =>
           (C 75 [o28.t 0, v54] o28.H (o28.n + 7)).bind fun q55 =>
           (idxA 1 (o28.t 7) (o28.t 9)).bind fun v56 =>
           (st false 1 v56 q55.1 q55.2.1).bind fun H57 =>
           some ⟨.normal, put (put (put (put (put (put o28.t 59 (o28.t 7)) 60 (o28.t 9)) 61 (o28.t 0)) 62 v54) 63 q55.1) 64 v56, H57, q55.2.2⟩))
     fun (o14 : Out) =>
     (binK .plain .add (o14.t 21) (.int .i64 1)).bind fun v58 =>
     some ⟨.normal, put (put o14.t 65 v58) 21 v58, o14.H, o14.n + 2⟩)
    (some ⟨(.exit 0), put t 22 v13, H, n + 1⟩)
noncomputable def S63 (C : Calling) (L : Body → Body) (t : Tm) (H : Hp) (n : Nat) : Option (Value × Hp × Nat) :=
  (vcells (t 1)).bind fun c2 =>
  let H1 := H.set (n) (some (.row c2 0 true))
  (fieldA 0 (ptr (n) 0)).bind fun v3 =>
  (ld false 1 v3 H1).bind fun v4 =>
  (lenV false v4).bind fun v5 =>
  (mks (n + 5) 1 8 [.int .i64 0] v5 v5 H1).bind fun p6 =>
  (ld true 1 (ptr (n) 0) p6.2).bind fun v7 =>
  (C 74 [v7, t 2] p6.2 (n + 11)).bind fun q8 =>
  (fieldA 0 (ptr (n) 0)).bind fun v9 =>
  (ld false 1 v9 q8.2.1).bind fun v10 =>
  (lenV false v10).bind fun v11 =>
  (L (S63L0 C L) (put (put (put (put (put (put (put (put (put (put (put (put (put (put (put t 4 (ptr (n) 0)) 6 nilS) 11 v3) 12 v4) 13 v5) 14 p6.1) 7 p6.1) 15 v7) 16 (t 2)) 17 q8.1) 8 q8.1) 18 v9) 19 v10) 20 v11) 21 (.int .i64 0)) q8.2.1 (q8.2.2 + 4)).bind fun (o12 : Out) =>
  some (o12.t 7, o12.H, o12.n + 2)
theorem s63 (C : Calling) (L : Body → Body) (t : Tm) (H : Hp) (n : Nat) : bodyK Try.prog C L Try.f63 t H n = S63 C L t H n := by kernel_rfl
theorem c63 (args : List Value) (H : Hp) (n : Nat) : Call Try.prog 63 args H n = S63 (Call Try.prog) Loop (argsT args) H n := (Call_body Try.func63 args H n).trans (s63 ..)
/-! 64: impl.PutNum -/
noncomputable def S64L0 (C : Calling) (L : Body → Body) : Body := fun t H n =>
  (binK .plain .gtr (t 0) (.int .i64 127)).bind fun v4 =>
  csel v4
    ((binK .plain .rem (t 0) (.int .i64 128)).bind fun v5 =>
     (binK .plain .add v5 (.int .i64 128)).bind fun v6 =>
     (conv (.toInt .u8) (n + 6) v6 H).bind fun p7 =>
     (bsl (n + 7) 1 1 [.int .u8 0] [(0, 1, p7.1)] p7.2).bind fun p8 =>
     (app (n + 8) 1 1 (t 3) p8.1 p8.2).bind fun p9 =>
     (binK .plain .quo (t 0) (.int .i64 128)).bind fun v10 =>
     some ⟨.normal, put (put (put (put (put (put (put (put (put (put (put (put (put t 7 (t 0)) 8 v4) 9 (t 3)) 10 (t 0)) 11 v5) 12 v6) 13 p7.1) 14 p8.1) 15 p9.1) 3 p9.1) 16 (t 0)) 17 v10) 0 v10, p9.2, n + 13⟩)
    (some ⟨(.exit 0), put (put t 7 (t 0)) 8 v4, H, n + 2⟩)
noncomputable def S64 (C : Calling) (L : Body → Body) (t : Tm) (H : Hp) (n : Nat) : Option (Value × Hp × Nat) :=
  (binK .plain .lss (t 0) (.int .i64 0)).bind fun v1 =>
  csel v1
    (some (nilS, H, n + 4))
    ((bsl (n + 3) 1 0 [.int .u8 0] [] H).bind fun p2 =>
     (L (S64L0 C L) (put (put (put (put (put t 2 nilS) 4 (t 0)) 5 v1) 6 p2.1) 3 p2.1) p2.2 (n + 5)).bind fun (o3 : Out) =>
     (conv (.toInt .u8) (o3.n + 2) (o3.t 0) o3.H).bind fun p11 =>
     (bsl (o3.n + 3) 1 1 [.int .u8 0] [(0, 1, p11.1)] p11.2).bind fun p12 =>
     (app (o3.n + 4) 1 1 (o3.t 3) p12.1 p12.2).bind fun p13 =>
     some (p13.1, p13.2, o3.n + 6))
theorem s64 (C : Calling) (L : Body → Body) (t : Tm) (H : Hp) (n : Nat) : bodyK Try.prog C L Try.f64 t H n = S64 C L t H n := by kernel_rfl
theorem c64 (args : List Value) (H : Hp) (n : Nat) : Call Try.prog 64 args H n = S64 (Call Try.prog) Loop (argsT args) H n := (Call_body Try.func64 args H n).trans (s64 ..)
/-! 65: impl.PutText -/
noncomputable def S65 (C : Calling) (L : Body → Body) (t : Tm) (H : Hp) (n : Nat) : Option (Value × Hp × Nat) :=
  (lenV true (t 0)).bind fun v1 =>
  (C 64 [v1] H (n + 7)).bind fun q2 =>
  (app (n + 5) 1 1 q2.1 (t 0) q2.2.1).bind fun p3 =>
  some (p3.1, p3.2, q2.2.2)
theorem s65 (C : Calling) (L : Body → Body) (t : Tm) (H : Hp) (n : Nat) : bodyK Try.prog C L Try.f65 t H n = S65 C L t H n := by kernel_rfl
theorem c65 (args : List Value) (H : Hp) (n : Nat) : Call Try.prog 65 args H n = S65 (Call Try.prog) Loop (argsT args) H n := (Call_body Try.func65 args H n).trans (s65 ..)
/-! 72: impl.NameOk -/
noncomputable def S72L0 (C : Calling) (L : Body → Body) : Body := fun t H n =>
  (binK .plain .lss (t 10) (t 9)).bind fun v6 =>
  csel v6
    ((idxS (t 0) (t 10)).bind fun v7 =>
     (C 78 [v7] H (n + 8)).bind fun q8 =>
     (un .not q8.1).bind fun v9 =>
     csel v9
       (some ⟨.ret, put (put (put (put (put (put (put (put (put t 11 v6) 12 (t 10)) 3 (t 10)) 13 (t 0)) 14 (t 10)) 15 v7) 16 q8.1) 17 v9) 2 (.bool false), q8.2.1, q8.2.2 + 1⟩)
       ((binK .plain .add (t 10) (.int .i64 1)).bind fun v10 =>
        some ⟨.normal, put (put (put (put (put (put (put (put (put (put t 11 v6) 12 (t 10)) 3 (t 10)) 13 (t 0)) 14 (t 10)) 15 v7) 16 q8.1) 17 v9) 18 v10) 10 v10, q8.2.1, q8.2.2 + 2⟩))
    (some ⟨(.exit 0), put t 11 v6, H, n + 1⟩)
noncomputable def S72 (C : Calling) (L : Body → Body) (t : Tm) (H : Hp) (n : Nat) : Option (Value × Hp × Nat) :=
  (lenV true (t 0)).bind fun v1 =>
  (C 54 [v1, .int .i64 1, .int .i64 12] H (n + 5)).bind fun q2 =>
  (un .not q2.1).bind fun v3 =>
  csel v3
    (some (.bool false, q2.2.1, q2.2.2 + 1))
    ((lenV true (t 0)).bind fun v4 =>
     (L (S72L0 C L) (put (put (put (put (put (put (put (put t 2 (.bool false)) 4 (t 0)) 5 v1) 6 q2.1) 7 v3) 8 (t 0)) 9 v4) 10 (.int .i64 0)) q2.2.1 (q2.2.2 + 3)).bind fun (o5 : Out) =>
     let o11 := outOf 0 o5
     thenK o11
       (some (.bool true, o11.H, o11.n + 1))
       (finE o11.e
          (some (o11.t 2, o11.H, o11.n))))
theorem s72 (C : Calling) (L : Body → Body) (t : Tm) (H : Hp) (n : Nat) : bodyK Try.prog C L Try.f72 t H n = S72 C L t H n := by kernel_rfl
theorem c72 (args : List Value) (H : Hp) (n : Nat) : Call Try.prog 72 args H n = S72 (Call Try.prog) Loop (argsT args) H n := (Call_body Try.func72 args H n).trans (s72 ..)
/-! 73: spec.NameOk -/
noncomputable def S73L0 (C : Calling) (L : Body → Body) : Body := fun t H n =>
  (lenV true (t 0)).bind fun v2 =>
  (binK .plain .lss (t 3) v2).bind fun v3 =>
  csel v3
    ((idxS (t 0) (t 3)).bind fun v4 =>
     (C 79 [v4] H (n + 9)).bind fun q5 =>
     (un .not q5.1).bind fun v6 =>
     csel v6
       (some ⟨.ret, put (put (put (put (put (put (put (put (put (put t 4 (t 3)) 5 (t 0)) 6 v2) 7 v3) 10 (t 0)) 11 (t 3)) 12 v4) 13 q5.1) 14 v6) 2 (.bool false), q5.2.1, q5.2.2 + 1⟩)
       ((binK .plain .add (t 3) (.int .i64 1)).bind fun v7 =>
        some ⟨.normal, put (put (put (put (put (put (put (put (put (put (put (put t 4 (t 3)) 5 (t 0)) 6 v2) 7 v3) 10 (t 0)) 11 (t 3)) 12 v4) 13 q5.1) 14 v6) 8 (t 3)) 9 v7) 3 v7, q5.2.1, q5.2.2 + 3⟩))
    (some ⟨(.exit 0), put (put (put (put t 4 (t 3)) 5 (t 0)) 6 v2) 7 v3, H, n + 4⟩)
noncomputable def S73 (C : Calling) (L : Body → Body) (t : Tm) (H : Hp) (n : Nat) : Option (Value × Hp × Nat) :=
  (L (S73L0 C L) (put (put t 2 (.bool false)) 3 (.int .i64 0)) H (n + 2)).bind fun (o1 : Out) =>
  let o8 := outOf 0 o1
  thenK o8
    ((lenV true (o8.t 0)).bind fun v9 =>
     (C 51 [v9, .int .i64 1, .int .i64 12] o8.H (o8.n + 4)).bind fun q10 =>
     some (q10.1, q10.2.1, q10.2.2))
    (finE o8.e
       (some (o8.t 2, o8.H, o8.n)))
theorem s73 (C : Calling) (L : Body → Body) (t : Tm) (H : Hp) (n : Nat) : bodyK Try.prog C L Try.f73 t H n = S73 C L t H n := by kernel_rfl
theorem c73 (args : List Value) (H : Hp) (n : Nat) : Call Try.prog 73 args H n = S73 (Call Try.prog) Loop (argsT args) H n := (Call_body Try.func73 args H n).trans (s73 ..)
/-! 74: impl.reach -/
noncomputable def S74L1 (C : Calling) (L : Body → Body) : Body := fun t H n =>
  (binK .plain .geq (t 8) (.int .i64 0)).bind fun v20 =>
  csel v20
    (let t22 : Tm := put (put t 28 (t 8)) 29 v20
     Option.bind
       ((idxA 1 (t22 5) (t22 8)).bind fun v23 =>
        (ld false 1 v23 H).bind fun v24 =>
        (un .not v24).bind fun v25 =>
        csel v25
          (some ⟨(.exit 3), put (put (put (put (put t22 32 (t22 5)) 33 (t22 8)) 34 v23) 35 v24) 36 v25, H, n + 7⟩)
          ((fieldA 0 (t22 2)).bind fun v26 =>
           (ld false 1 v26 H).bind fun v27 =>
           (idxA 5 v27 (t22 8)).bind fun v28 =>
           (ld true 5 v28 H).bind fun v29 =>
           let H30 := H.set (n + 12) (some (.row [.int .i64 0, .int .i64 0, .string ⟨#[]⟩, .int .i64 0, .int .i64 0] 0 true))
           (st true 5 (ptr (n + 12) 0) v29 H30).bind fun H31 =>
           (fieldA 0 (ptr (n + 12) 0)).bind fun v32 =>
           (ld false 1 v32 H31).bind fun v33 =>
           (binK .plain .eql v33 (.int .i64 5)).bind fun v34 =>
           let t36 : Tm := put (put (put (put (put (put (put (put (put (put (put (put (put (put (put t22 32 (t22 5)) 33 (t22 8)) 34 v23) 35 v24) 36 v25) 37 v26) 38 v27) 39 (t22 8)) 40 v28) 41 v29) 9 (ptr (n + 12) 0)) 42 v32) 43 v33) 45 v34) 44 v34
           (csel v34
             ((fieldA 3 (ptr (n + 12) 0)).bind fun v37 =>
              (ld false 1 v37 H31).bind fun v38 =>
              (idxA 1 (t36 5) v38).bind fun v39 =>
              (st false 1 v39 (.bool true) H31).bind fun H40 =>
              (fieldA 4 (ptr (n + 12) 0)).bind fun v41 =>
              (ld false 1 v41 H40).bind fun v42 =>
              (idxA 1 (t36 5) v42).bind fun v43 =>
              (st false 1 v43 (.bool true) H40).bind fun H44 =>
              some ⟨.normal, put (put (put (put (put (put (put (put t36 46 (t36 5)) 47 v37) 48 v38) 49 v39) 50 (t36 5)) 51 v41) 52 v42) 53 v43, H44, n + 28⟩)
             ((binK .plain .eql v33 (.int .i64 6)).bind fun v45 =>
              let t47 : Tm := put (put t36 55 v45) 54 v45
              (csel v45
                (some ⟨.normal, t47, H31, n + 20⟩)
                ((binK .plain .eql v33 (.int .i64 7)).bind fun v48 =>
                 some ⟨.normal, put (put t47 56 v48) 54 v48, H31, n + 22⟩)
              ).bind fun (o46 : Out) =>
              (csel (o46.t 54)
                ((fieldA 3 (o46.t 9)).bind fun v51 =>
                 (ld false 1 v51 o46.H).bind fun v52 =>
                 (idxA 1 (o46.t 5) v52).bind fun v53 =>
                 (st false 1 v53 (.bool true) o46.H).bind fun H54 =>
                 some ⟨.normal, put (put (put (put o46.t 57 (o46.t 5)) 58 v51) 59 v52) 60 v53, H54, o46.n + 5⟩)
                (some ⟨.normal, o46.t, o46.H, o46.n⟩)
              ).bind fun (o49 : Out) =>
              some ⟨.normal, o49.t, o49.H, o49.n⟩)
           ).bind fun (o35 : Out) =>
           some ⟨.normal, o35.t, o35.H, o35.n⟩))
     fun (o21 : Out) =>
     (binK .plain .sub (o21.t 8) (.int .i64 1)).bind fun v55 =>
     some ⟨.normal, put (put (put o21.t 30 (o21.t 8)) 31 v55) 8 v55, o21.H, o21.n + 3⟩)
    (some ⟨(.exit 2), put (put t 28 (t 8)) 29 v20, H, n + 2⟩)
noncomputable def S74L0 (C : Calling) (L : Body → Body) : Body := fun t H n =>
  (binK .plain .lss (t 16) (t 15)).bind fun v9 =>
  csel v9
    ((idxA 1 (t 14) (t 16)).bind fun v10 =>
     (ld false 1 v10 H).bind fun v11 =>
     (idxA 1 (t 5) v11).bind fun v12 =>
     (st false 1 v12 (.bool true) H).bind fun H13 =>
     (binK .plain .add (t 16) (.int .i64 1)).bind fun v14 =>
     some ⟨.normal, put (put (put (put (put (put (put (put (put t 17 v9) 18 v10) 19 v11) 7 v11) 20 (t 5)) 21 v11) 22 v12) 23 v14) 16 v14, H13, n + 10⟩)
    (some ⟨(.exit 0), put t 17 v9, H, n + 1⟩)
noncomputable def S74 (C : Calling) (L : Body → Body) (t : Tm) (H : Hp) (n : Nat) : Option (Value × Hp × Nat) :=
  (vcells (t 0)).bind fun c2 =>
  let H1 := H.set (n) (some (.row c2 0 true))
  (fieldA 0 (ptr (n) 0)).bind fun v3 =>
  (ld false 1 v3 H1).bind fun v4 =>
  (lenV false v4).bind fun v5 =>
  (mks (n + 5) 1 1 [.bool false] v5 v5 H1).bind fun p6 =>
  (lenV false (t 1)).bind fun v7 =>
  (L (S74L0 C L) (put (put (put (put (put (put (put (put (put (put t 2 (ptr (n) 0)) 4 nilS) 10 v3) 11 v4) 12 v5) 13 p6.1) 5 p6.1) 14 (t 1)) 15 v7) 16 (.int .i64 0)) p6.2 (n + 10)).bind fun (o8 : Out) =>
  (fieldA 0 (o8.t 2)).bind fun v15 =>
  (ld false 1 v15 o8.H).bind fun v16 =>
  (lenV false v16).bind fun v17 =>
  (binK .plain .sub v17 (.int .i64 1)).bind fun v18 =>
  (L (S74L1 C L) (put (put (put (put (put o8.t 24 v15) 25 v16) 26 v17) 27 v18) 8 v18) o8.H (o8.n + 5)).bind fun (o19 : Out) =>
  some (o19.t 5, o19.H, o19.n + 2)
theorem s74 (C : Calling) (L : Body → Body) (t : Tm) (H : Hp) (n : Nat) : bodyK Try.prog C L Try.f74 t H n = S74 C L t H n := by kernel_rfl
theorem c74 (args : List Value) (H : Hp) (n : Nat) : Call Try.prog 74 args H n = S74 (Call Try.prog) Loop (argsT args) H n := (Call_body Try.func74 args H n).trans (s74 ..)
/-! 75: impl.Pool).add -/
noncomputable def S75 (C : Calling) (L : Body → Body) (t : Tm) (H : Hp) (n : Nat) : Option (Value × Hp × Nat) :=
  (vcells (t 1)).bind fun c2 =>
  let H1 := H.set (n) (some (.row c2 0 true))
  (nilchk (t 0)).bind fun v3 =>
  (fieldA 0 v3).bind fun v4 =>
  (ld false 1 v4 H1).bind fun v5 =>
  (ld true 5 (ptr (n) 0) H1).bind fun v6 =>
  (bsl (n + 8) 5 1 [.int .i64 0, .int .i64 0, .string ⟨#[]⟩, .int .i64 0, .int .i64 0] [(0, 5, v6)] H1).bind fun p7 =>
  (app (n + 9) 5 48 v5 p7.1 p7.2).bind fun p8 =>
  (nilchk (t 0)).bind fun v9 =>
  (fieldA 0 v9).bind fun v10 =>
  (st false 1 v10 p8.1 p8.2).bind fun H11 =>
  (nilchk (t 0)).bind fun v12 =>
  (fieldA 0 v12).bind fun v13 =>
  (ld false 1 v13 H11).bind fun v14 =>
  (lenV false v14).bind fun v15 =>
  (binK .plain .sub v15 (.int .i64 1)).bind fun v16 =>
  some (v16, H11, n + 20)
theorem s75 (C : Calling) (L : Body → Body) (t : Tm) (H : Hp) (n : Nat) : bodyK Try.prog C L Try.f75 t H n = S75 C L t H n := by kernel_rfl
theorem c75 (args : List Value) (H : Hp) (n : Nat) : Call Try.prog 75 args H n = S75 (Call Try.prog) Loop (argsT args) H n := (Call_body Try.func75 args H n).trans (s75 ..)
/-! 78: impl.isNameByte -/
noncomputable def S78 (C : Calling) (L : Body → Body) (t : Tm) (H : Hp) (n : Nat) : Option (Value × Hp × Nat) :=
  (binK .plain .geq (t 0) (.int .u8 97)).bind fun v1 =>
  let t3 : Tm := put (put (put (put t 2 (.bool false)) 3 (t 0)) 4 v1) 5 v1
  (gsel v1 true
    ((binK .plain .leq (t3 0) (.int .u8 122)).bind fun v4 =>
     some (put (put t3 6 (t3 0)) 7 v4, H, n + 14))
    (some (put (put t3 6 (.tuple #[])) 7 (.tuple #[]), H, n + 14))
  ).bind fun (q2 : R3) =>
  (pickV (q2.1 5) (q2.1 7) (.bool false)).bind fun v5 =>
  let t7 : Tm := put (put q2.1 8 v5) 9 v5
  (gsel v5 false
    ((bsl (n + 8) 1 8 [.int .u8 0] [(0, 1, .int .u8 43), (1, 1, .int .u8 45), (2, 1, .int .u8 42), (3, 1, .int .u8 60), (4, 1, .int .u8 61), (5, 1, .int .u8 63), (6, 1, .int .u8 33), (7, 1, .int .u8 47)] q2.2.1).bind fun p8 =>
     (conv .mark (n + 9) p8.1 p8.2).bind fun p9 =>
     (C 81 [p9.1, t7 0] p9.2 (q2.2.2)).bind fun q10 =>
     some (put (put (put (put t7 10 p8.1) 11 p9.1) 12 (t7 0)) 13 q10.1, q10.2.1, q10.2.2))
    (some (put (put (put (put t7 10 (.tuple #[])) 11 (.tuple #[])) 12 (.tuple #[])) 13 (.tuple #[]), q2.2.1, q2.2.2))
  ).bind fun (q6 : R3) =>
  (pickV (q6.1 9) (.bool true) (q6.1 13)).bind fun v11 =>
  some (v11, q6.2.1, q6.2.2)
theorem s78 (C : Calling) (L : Body → Body) (t : Tm) (H : Hp) (n : Nat) : bodyK Try.prog C L Try.f78 t H n = S78 C L t H n := by kernel_rfl
theorem c78 (args : List Value) (H : Hp) (n : Nat) : Call Try.prog 78 args H n = S78 (Call Try.prog) Loop (argsT args) H n := (Call_body Try.func78 args H n).trans (s78 ..)
/-! 79: spec.l2NameByte -/
noncomputable def S79 (C : Calling) (L : Body → Body) (t : Tm) (H : Hp) (n : Nat) : Option (Value × Hp × Nat) :=
  (binK .plain .geq (t 0) (.int .u8 97)).bind fun v1 =>
  let t3 : Tm := put (put (put (put t 2 (.bool false)) 3 (t 0)) 4 v1) 5 v1
  (gsel v1 true
    ((binK .plain .leq (t3 0) (.int .u8 122)).bind fun v4 =>
     some (put (put t3 6 (t3 0)) 7 v4, H, n + 40))
    (some (put (put t3 6 (.tuple #[])) 7 (.tuple #[]), H, n + 40))
  ).bind fun (q2 : R3) =>
  (pickV (q2.1 5) (q2.1 7) (.bool false)).bind fun v5 =>
  let t7 : Tm := put (put q2.1 8 v5) 9 v5
  (gsel v5 false
    ((binK .plain .eql (t7 0) (.int .u8 43)).bind fun v8 =>
     some (put (put t7 10 (t7 0)) 11 v8, q2.2.1, q2.2.2))
    (some (put (put t7 10 (.tuple #[])) 11 (.tuple #[]), q2.2.1, q2.2.2))
  ).bind fun (q6 : R3) =>
  (pickV (q6.1 9) (.bool true) (q6.1 11)).bind fun v9 =>
  let t11 : Tm := put (put q6.1 12 v9) 13 v9
  (gsel v9 false
    ((binK .plain .eql (t11 0) (.int .u8 45)).bind fun v12 =>
     some (put (put t11 14 (t11 0)) 15 v12, q6.2.1, q6.2.2))
    (some (put (put t11 14 (.tuple #[])) 15 (.tuple #[]), q6.2.1, q6.2.2))
  ).bind fun (q10 : R3) =>
  (pickV (q10.1 13) (.bool true) (q10.1 15)).bind fun v13 =>
  let t15 : Tm := put (put q10.1 16 v13) 17 v13
  (gsel v13 false
    ((binK .plain .eql (t15 0) (.int .u8 42)).bind fun v16 =>
     some (put (put t15 18 (t15 0)) 19 v16, q10.2.1, q10.2.2))
    (some (put (put t15 18 (.tuple #[])) 19 (.tuple #[]), q10.2.1, q10.2.2))
  ).bind fun (q14 : R3) =>
  (pickV (q14.1 17) (.bool true) (q14.1 19)).bind fun v17 =>
  let t19 : Tm := put (put q14.1 20 v17) 21 v17
  (gsel v17 false
    ((binK .plain .eql (t19 0) (.int .u8 60)).bind fun v20 =>
     some (put (put t19 22 (t19 0)) 23 v20, q14.2.1, q14.2.2))
    (some (put (put t19 22 (.tuple #[])) 23 (.tuple #[]), q14.2.1, q14.2.2))
  ).bind fun (q18 : R3) =>
  (pickV (q18.1 21) (.bool true) (q18.1 23)).bind fun v21 =>
  let t23 : Tm := put (put q18.1 24 v21) 25 v21
  (gsel v21 false
    ((binK .plain .eql (t23 0) (.int .u8 61)).bind fun v24 =>
     some (put (put t23 26 (t23 0)) 27 v24, q18.2.1, q18.2.2))
    (some (put (put t23 26 (.tuple #[])) 27 (.tuple #[]), q18.2.1, q18.2.2))
  ).bind fun (q22 : R3) =>
  (pickV (q22.1 25) (.bool true) (q22.1 27)).bind fun v25 =>
  let t27 : Tm := put (put q22.1 28 v25) 29 v25
  (gsel v25 false
    ((binK .plain .eql (t27 0) (.int .u8 63)).bind fun v28 =>
     some (put (put t27 30 (t27 0)) 31 v28, q22.2.1, q22.2.2))
    (some (put (put t27 30 (.tuple #[])) 31 (.tuple #[]), q22.2.1, q22.2.2))
  ).bind fun (q26 : R3) =>
  (pickV (q26.1 29) (.bool true) (q26.1 31)).bind fun v29 =>
  let t31 : Tm := put (put q26.1 32 v29) 33 v29
  (gsel v29 false
    ((binK .plain .eql (t31 0) (.int .u8 33)).bind fun v32 =>
     some (put (put t31 34 (t31 0)) 35 v32, q26.2.1, q26.2.2))
    (some (put (put t31 34 (.tuple #[])) 35 (.tuple #[]), q26.2.1, q26.2.2))
  ).bind fun (q30 : R3) =>
  (pickV (q30.1 33) (.bool true) (q30.1 35)).bind fun v33 =>
  let t35 : Tm := put (put q30.1 36 v33) 37 v33
  (gsel v33 false
    ((binK .plain .eql (t35 0) (.int .u8 47)).bind fun v36 =>
     some (put (put t35 38 (t35 0)) 39 v36, q30.2.1, q30.2.2))
    (some (put (put t35 38 (.tuple #[])) 39 (.tuple #[]), q30.2.1, q30.2.2))
  ).bind fun (q34 : R3) =>
  (pickV (q34.1 37) (.bool true) (q34.1 39)).bind fun v37 =>
  some (v37, q34.2.1, q34.2.2)
theorem s79 (C : Calling) (L : Body → Body) (t : Tm) (H : Hp) (n : Nat) : bodyK Try.prog C L Try.f79 t H n = S79 C L t H n := by kernel_rfl
theorem c79 (args : List Value) (H : Hp) (n : Nat) : Call Try.prog 79 args H n = S79 (Call Try.prog) Loop (argsT args) H n := (Call_body Try.func79 args H n).trans (s79 ..)
/-! 81: slices.Contains[[]byte,byte] -/
noncomputable def S81 (C : Calling) (L : Body → Body) (t : Tm) (H : Hp) (n : Nat) : Option (Value × Hp × Nat) :=
  (C 82 [t 0, t 1] H (n + 6)).bind fun q1 =>
  (binK .plain .geq q1.1 (.int .i64 0)).bind fun v2 =>
  some (v2, q1.2.1, q1.2.2)
theorem s81 (C : Calling) (L : Body → Body) (t : Tm) (H : Hp) (n : Nat) : bodyK Try.prog C L Try.f81 t H n = S81 C L t H n := by kernel_rfl
theorem c81 (args : List Value) (H : Hp) (n : Nat) : Call Try.prog 81 args H n = S81 (Call Try.prog) Loop (argsT args) H n := (Call_body Try.func81 args H n).trans (s81 ..)
/-! 82: slices.Index[[]byte,byte] -/
noncomputable def S82L0 (C : Calling) (L : Body → Body) : Body := fun t H n =>
  (binK .plain .lss (t 8) (t 7)).bind fun v3 =>
  csel v3
    ((idxA 1 (t 0) (t 8)).bind fun v4 =>
     (ld false 1 v4 H).bind fun v5 =>
     (binK .plain .eql (t 1) v5).bind fun v6 =>
     csel v6
       (some ⟨.ret, put (put (put (put (put (put (put (put (put (put (put t 9 v3) 10 (t 8)) 5 (t 8)) 11 (t 1)) 12 (t 0)) 13 (t 8)) 14 v4) 15 v5) 16 v6) 17 (t 8)) 4 (t 8), H, n + 11⟩)
       ((binK .plain .add (t 8) (.int .i64 1)).bind fun v7 =>
        some ⟨.normal, put (put (put (put (put (put (put (put (put (put (put t 9 v3) 10 (t 8)) 5 (t 8)) 11 (t 1)) 12 (t 0)) 13 (t 8)) 14 v4) 15 v5) 16 v6) 18 v7) 8 v7, H, n + 11⟩))
    (some ⟨(.exit 0), put t 9 v3, H, n + 1⟩)
noncomputable def S82 (C : Calling) (L : Body → Body) (t : Tm) (H : Hp) (n : Nat) : Option (Value × Hp × Nat) :=
  (lenV false (t 0)).bind fun v1 =>
  (L (S82L0 C L) (put (put (put (put t 4 (.int .i64 0)) 6 (t 0)) 7 v1) 8 (.int .i64 0)) H (n + 4)).bind fun (o2 : Out) =>
  let o8 := outOf 0 o2
  thenK o8
    (some (.int .i64 (-1), o8.H, o8.n + 1))
    (finE o8.e
       (some (o8.t 4, o8.H, o8.n)))
theorem s82 (C : Calling) (L : Body → Body) (t : Tm) (H : Hp) (n : Nat) : bodyK Try.prog C L Try.f82 t H n = S82 C L t H n := by kernel_rfl
theorem c82 (args : List Value) (H : Hp) (n : Nat) : Call Try.prog 82 args H n = S82 (Call Try.prog) Loop (argsT args) H n := (Call_body Try.func82 args H n).trans (s82 ..)
end Go.Proofs.Ytdnokdgkccnbnaa.Ax
