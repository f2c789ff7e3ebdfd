/- What the bodies of some functions of the program come to in the abstract machine. -/
import Derived.Test.YtjbfdaemgpmgjaaProg
import Derived.Test.YtjbfdaemgpmgjaaAx3
set_option linter.unusedVariables false
namespace Go.Proofs.Ytjbfdaemgpmgjaa.Ax
open Go
set_option maxRecDepth 100000
/-! 54: impl.isPlace -/
noncomputable def S54 (C : Calling) (L : Body → Body) (t : Tm) (H : Hp) (n : Nat) : Option (Value × Hp × Nat) :=
  (vcells (t 0)).bind fun c2 =>
  let H1 := H.set (n) (some (.row c2 0 true))
  (fieldA 1 (ptr (n) 0)).bind fun v3 =>
  (ld false 1 v3 H1).bind fun v4 =>
  (lenV false v4).bind fun v5 =>
  (binK .plain .sub v5 (.int .i64 1)).bind fun v6 =>
  (C 70 [t 1, .int .i64 0, v6] H1 (n + 9)).bind fun q7 =>
  some (q7.1, q7.2.1, q7.2.2)
theorem s54 (C : Calling) (L : Body → Body) (t : Tm) (H : Hp) (n : Nat) : bodyK Try.prog C L Try.f54 t H n = S54 C L t H n := by kernel_rfl
theorem c54 (args : List Value) (H : Hp) (n : Nat) : Call Try.prog 54 args H n = S54 (Call Try.prog) Loop (argsT args) H n := (Call_body Try.func54 args H n).trans (s54 ..)
/-! 55: impl.copyPool -/
noncomputable def S55 (C : Calling) (L : Body → Body) (t : Tm) (H : Hp) (n : Nat) : Option (Value × Hp × Nat) :=
  (vcells (t 0)).bind fun c2 =>
  let H1 := H.set (n) (some (.row c2 0 true))
  let H3 := H1.set (n + 1) (some (.row [nilS] 0 true))
  (fieldA 0 (ptr (n) 0)).bind fun v4 =>
  (ld false 1 v4 H3).bind fun v5 =>
  (C 103 [v5] H3 (n + 7)).bind fun q6 =>
  (bld [nilS] [(0, 1, q6.1)]).bind fun v7 =>
  (st true 1 (ptr (n + 1) 0) v7 q6.2.1).bind fun H8 =>
  (ld true 1 (ptr (n + 1) 0) H8).bind fun v9 =>
  some (v9, H8, q6.2.2)
theorem s55 (C : Calling) (L : Body → Body) (t : Tm) (H : Hp) (n : Nat) : bodyK Try.prog C L Try.f55 t H n = S55 C L t H n := by kernel_rfl
theorem c55 (args : List Value) (H : Hp) (n : Nat) : Call Try.prog 55 args H n = S55 (Call Try.prog) Loop (argsT args) H n := (Call_body Try.func55 args H n).trans (s55 ..)
/-! 56: impl.Pool).add -/
noncomputable def S56 (C : Calling) (L : Body → Body) (t : Tm) (H : Hp) (n : Nat) : Option (Value × Hp × Nat) :=
  (vcells (t 1)).bind fun c2 =>
  let H1 := H.set (n) (some (.row c2 0 true))
  (nilchk (t 0)).bind fun v3 =>
  (fieldA 0 v3).bind fun v4 =>
  (ld false 1 v4 H1).bind fun v5 =>
  (ld true 5 (ptr (n) 0) H1).bind fun v6 =>
  (bsl (n + 8) 5 1 [.int .i64 0, .int .i64 0, .string ⟨#[]⟩, .int .i64 0, .int .i64 0] [(0, 5, v6)] H1).bind fun p7 =>
  (app (n + 9) 5 48 v5 p7.1 p7.2).bind fun p8 =>
  (nilchk (t 0)).bind fun v9 =>
  (fieldA 0 v9).bind fun v10 =>
  (st false 1 v10 p8.1 p8.2).bind fun H11 =>
  (nilchk (t 0)).bind fun v12 =>
  (fieldA 0 v12).bind fun v13 =>
  (ld false 1 v13 H11).bind fun v14 =>
  (lenV false v14).bind fun v15 =>
  (binK .plain .sub v15 (.int .i64 1)).bind fun v16 =>
  some (v16, H11, n + 20)
theorem s56 (C : Calling) (L : Body → Body) (t : Tm) (H : Hp) (n : Nat) : bodyK Try.prog C L Try.f56 t H n = S56 C L t H n := by kernel_rfl
theorem c56 (args : List Value) (H : Hp) (n : Nat) : Call Try.prog 56 args H n = S56 (Call Try.prog) Loop (argsT args) H n := (Call_body Try.func56 args H n).trans (s56 ..)
/-! 57: impl.Pool).pair -/
noncomputable def S57 (C : Calling) (L : Body → Body) (t : Tm) (H : Hp) (n : Nat) : Option (Value × Hp × Nat) :=
  (bld [.int .i64 0, .int .i64 0, .string ⟨#[]⟩, .int .i64 0, .int .i64 0] [(0, 1, .int .i64 5), (3, 1, t 1), (4, 1, t 2)]).bind fun v1 =>
  (C 56 [t 0, v1] H (n + 7)).bind fun q2 =>
  some (q2.1, q2.2.1, q2.2.2)
theorem s57 (C : Calling) (L : Body → Body) (t : Tm) (H : Hp) (n : Nat) : bodyK Try.prog C L Try.f57 t H n = S57 C L t H n := by kernel_rfl
theorem c57 (args : List Value) (H : Hp) (n : Nat) : Call Try.prog 57 args H n = S57 (Call Try.prog) Loop (argsT args) H n := (Call_body Try.func57 args H n).trans (s57 ..)
/-! 58: laws.eqInstrS -/
noncomputable def S58L0 (C : Calling) (L : Body → Body) : Body := fun t H n =>
  (lenV false (t 0)).bind fun v5 =>
  (binK .plain .lss (t 5) v5).bind fun v6 =>
  csel v6
    ((idxA 4 (t 0) (t 5)).bind fun v7 =>
     (ld true 4 v7 H).bind fun v8 =>
     (idxA 4 (t 1) (t 5)).bind fun v9 =>
     (ld true 4 v9 H).bind fun v10 =>
     (C 104 [v8, v10] H (n + 14)).bind fun q11 =>
     (un .not q11.1).bind fun v12 =>
     csel v12
       (some ⟨.ret, put (put (put (put (put (put (put (put (put (put (put (put (put (put (put t 11 (t 5)) 12 (t 0)) 13 v5) 14 v6) 17 (t 0)) 18 (t 5)) 19 v7) 20 v8) 21 (t 1)) 22 (t 5)) 23 v9) 24 v10) 25 q11.1) 26 v12) 4 (.bool false), q11.2.1, q11.2.2 + 1⟩)
       ((binK .plain .add (t 5) (.int .i64 1)).bind fun v13 =>
        some ⟨.normal, put (put (put (put (put (put (put (put (put (put (put (put (put (put (put (put (put t 11 (t 5)) 12 (t 0)) 13 v5) 14 v6) 17 (t 0)) 18 (t 5)) 19 v7) 20 v8) 21 (t 1)) 22 (t 5)) 23 v9) 24 v10) 25 q11.1) 26 v12) 15 (t 5)) 16 v13) 5 v13, q11.2.1, q11.2.2 + 3⟩))
    (some ⟨(.exit 0), put (put (put (put t 11 (t 5)) 12 (t 0)) 13 v5) 14 v6, H, n + 4⟩)
noncomputable def S58 (C : Calling) (L : Body → Body) (t : Tm) (H : Hp) (n : Nat) : Option (Value × Hp × Nat) :=
  (lenV false (t 0)).bind fun v1 =>
  (lenV false (t 1)).bind fun v2 =>
  (binK .plain .neq v1 v2).bind fun v3 =>
  csel v3
    (some (.bool false, H, n + 7))
    ((L (S58L0 C L) (put (put (put (put (put (put (put t 4 (.bool false)) 6 (t 0)) 7 v1) 8 (t 1)) 9 v2) 10 v3) 5 (.int .i64 0)) H (n + 7)).bind fun (o4 : Out) =>
     let o14 := outOf 0 o4
     thenK o14
       (some (.bool true, o14.H, o14.n + 1))
       (finE o14.e
          (some (o14.t 4, o14.H, o14.n))))
theorem s58 (C : Calling) (L : Body → Body) (t : Tm) (H : Hp) (n : Nat) : bodyK Try.prog C L Try.f58 t H n = S58 C L t H n := by kernel_rfl
theorem c58 (args : List Value) (H : Hp) (n : Nat) : Call Try.prog 58 args H n = S58 (Call Try.prog) Loop (argsT args) H n := (Call_body Try.func58 args H n).trans (s58 ..)
/-! 59: laws.eqDefS -/
noncomputable def S59L0 (C : Calling) (L : Body → Body) : Body := fun t H n =>
  (lenV false (t 0)).bind fun v5 =>
  (binK .plain .lss (t 5) v5).bind fun v6 =>
  csel v6
    ((idxA 3 (t 0) (t 5)).bind fun v7 =>
     (ld true 3 v7 H).bind fun v8 =>
     (idxA 3 (t 1) (t 5)).bind fun v9 =>
     (ld true 3 v9 H).bind fun v10 =>
     (C 105 [v8, v10] H (n + 14)).bind fun q11 =>
     (un .not q11.1).bind fun v12 =>
     csel v12
       (some ⟨.ret, put (put (put (put (put (put (put (put (put (put (put (put (put (put (put t 11 (t 5)) 12 (t 0)) 13 v5) 14 v6) 17 (t 0)) 18 (t 5)) 19 v7) 20 v8) 21 (t 1)) 22 (t 5)) 23 v9) 24 v10) 25 q11.1) 26 v12) 4 (.bool false), q11.2.1, q11.2.2 + 1⟩)
       ((binK .plain .add (t 5) (.int .i64 1)).bind fun v13 =>
        some ⟨.normal, put (put (put (put (put (put (put (put (put (put (put (put (put (put (put (put (put t 11 (t 5)) 12 (t 0)) 13 v5) 14 v6) 17 (t 0)) 18 (t 5)) 19 v7) 20 v8) 21 (t 1)) 22 (t 5)) 23 v9) 24 v10) 25 q11.1) 26 v12) 15 (t 5)) 16 v13) 5 v13, q11.2.1, q11.2.2 + 3⟩))
    (some ⟨(.exit 0), put (put (put (put t 11 (t 5)) 12 (t 0)) 13 v5) 14 v6, H, n + 4⟩)
noncomputable def S59 (C : Calling) (L : Body → Body) (t : Tm) (H : Hp) (n : Nat) : Option (Value × Hp × Nat) :=
  (lenV false (t 0)).bind fun v1 =>
  (lenV false (t 1)).bind fun v2 =>
  (binK .plain .neq v1 v2).bind fun v3 =>
  csel v3
    (some (.bool false, H, n + 7))
    ((L (S59L0 C L) (put (put (put (put (put (put (put t 4 (.bool false)) 6 (t 0)) 7 v1) 8 (t 1)) 9 v2) 10 v3) 5 (.int .i64 0)) H (n + 7)).bind fun (o4 : Out) =>
     let o14 := outOf 0 o4
     thenK o14
       (some (.bool true, o14.H, o14.n + 1))
       (finE o14.e
          (some (o14.t 4, o14.H, o14.n))))
theorem s59 (C : Calling) (L : Body → Body) (t : Tm) (H : Hp) (n : Nat) : bodyK Try.prog C L Try.f59 t H n = S59 C L t H n := by kernel_rfl
theorem c59 (args : List Value) (H : Hp) (n : Nat) : Call Try.prog 59 args H n = S59 (Call Try.prog) Loop (argsT args) H n := (Call_body Try.func59 args H n).trans (s59 ..)
/-! 60: laws.eqNodeS -/
noncomputable def S60L0 (C : Calling) (L : Body → Body) : Body := fun t H n =>
  (lenV false (t 0)).bind fun v5 =>
  (binK .plain .lss (t 5) v5).bind fun v6 =>
  csel v6
    ((idxA 5 (t 0) (t 5)).bind fun v7 =>
     (ld true 5 v7 H).bind fun v8 =>
     (idxA 5 (t 1) (t 5)).bind fun v9 =>
     (ld true 5 v9 H).bind fun v10 =>
     (C 106 [v8, v10] H (n + 14)).bind fun q11 =>
     (un .not q11.1).bind fun v12 =>
     csel v12
       (some ⟨.ret, put (put (put (put (put (put (put (put (put (put (put (put (put (put (put t 11 (t 5)) 12 (t 0)) 13 v5) 14 v6) 17 (t 0)) 18 (t 5)) 19 v7) 20 v8) 21 (t 1)) 22 (t 5)) 23 v9) 24 v10) 25 q11.1) 26 v12) 4 (.bool false), q11.2.1, q11.2.2 + 1⟩)
       ((binK .plain .add (t 5) (.int .i64 1)).bind fun v13 =>
        some ⟨.normal, put (put (put (put (put (put (put (put (put (put (put (put (put (put (put (put (put t 11 (t 5)) 12 (t 0)) 13 v5) 14 v6) 17 (t 0)) 18 (t 5)) 19 v7) 20 v8) 21 (t 1)) 22 (t 5)) 23 v9) 24 v10) 25 q11.1) 26 v12) 15 (t 5)) 16 v13) 5 v13, q11.2.1, q11.2.2 + 3⟩))
    (some ⟨(.exit 0), put (put (put (put t 11 (t 5)) 12 (t 0)) 13 v5) 14 v6, H, n + 4⟩)
noncomputable def S60 (C : Calling) (L : Body → Body) (t : Tm) (H : Hp) (n : Nat) : Option (Value × Hp × Nat) :=
  (lenV false (t 0)).bind fun v1 =>
  (lenV false (t 1)).bind fun v2 =>
  (binK .plain .neq v1 v2).bind fun v3 =>
  csel v3
    (some (.bool false, H, n + 7))
    ((L (S60L0 C L) (put (put (put (put (put (put (put t 4 (.bool false)) 6 (t 0)) 7 v1) 8 (t 1)) 9 v2) 10 v3) 5 (.int .i64 0)) H (n + 7)).bind fun (o4 : Out) =>
     let o14 := outOf 0 o4
     thenK o14
       (some (.bool true, o14.H, o14.n + 1))
       (finE o14.e
          (some (o14.t 4, o14.H, o14.n))))
theorem s60 (C : Calling) (L : Body → Body) (t : Tm) (H : Hp) (n : Nat) : bodyK Try.prog C L Try.f60 t H n = S60 C L t H n := by kernel_rfl
theorem c60 (args : List Value) (H : Hp) (n : Nat) : Call Try.prog 60 args H n = S60 (Call Try.prog) Loop (argsT args) H n := (Call_body Try.func60 args H n).trans (s60 ..)
/-! 61: laws.markInstrS -/
noncomputable def S61L0 (C : Calling) (L : Body → Body) : Body := fun t H n =>
  (lenV false (t 0)).bind fun v2 =>
  (binK .plain .lss (t 5) v2).bind fun v3 =>
  csel v3
    ((idxA 4 (t 0) (t 5)).bind fun v4 =>
     (fieldA 0 v4).bind fun v5 =>
     (st false 1 v5 (t 1) H).bind fun H6 =>
     (binK .plain .add (t 1) (.int .i64 1)).bind fun v7 =>
     (idxA 4 (t 0) (t 5)).bind fun v8 =>
     (fieldA 1 v8).bind fun v9 =>
     (st false 1 v9 v7 H6).bind fun H10 =>
     (binK .plain .add v7 (.int .i64 1)).bind fun v11 =>
     (idxA 4 (t 0) (t 5)).bind fun v12 =>
     (fieldA 2 v12).bind fun v13 =>
     (st false 1 v13 v11 H10).bind fun H14 =>
     (binK .plain .add v11 (.int .i64 1)).bind fun v15 =>
     (C 107 [v15] H14 (n + 38)).bind fun q16 =>
     (idxA 4 (t 0) (t 5)).bind fun v17 =>
     (fieldA 3 v17).bind fun v18 =>
     (st false 1 v18 q16.1 q16.2.1).bind fun H19 =>
     (binK .plain .add v15 (.int .i64 1)).bind fun v20 =>
     (binK .plain .add (t 5) (.int .i64 1)).bind fun v21 =>
     some ⟨.normal, put (put (put (put (put (put (put (put (put (put (put (put (put (put (put (put (put (put (put (put (put (put (put (put (put (put (put (put (put (put (put (put (put (put (put (put (put (put (put (put t 6 (t 5)) 7 (t 0)) 8 v2) 9 v3) 12 (t 0)) 13 (t 5)) 14 (t 1)) 15 v4) 16 v5) 17 (t 1)) 18 v7) 1 v7) 19 (t 0)) 20 (t 5)) 21 v7) 22 v8) 23 v9) 24 v7) 25 v11) 1 v11) 26 (t 0)) 27 (t 5)) 28 v11) 29 v12) 30 v13) 31 v11) 32 v15) 1 v15) 33 (t 0)) 34 (t 5)) 35 v15) 36 q16.1) 37 v17) 38 v18) 39 v15) 40 v20) 1 v20) 10 (t 5)) 11 v21) 5 v21, H19, q16.2.2 + 6⟩)
    (some ⟨(.exit 0), put (put (put (put t 6 (t 5)) 7 (t 0)) 8 v2) 9 v3, H, n + 4⟩)
noncomputable def S61 (C : Calling) (L : Body → Body) (t : Tm) (H : Hp) (n : Nat) : Option (Value × Hp × Nat) :=
  (L (S61L0 C L) (put (put t 4 (.int .i64 0)) 5 (.int .i64 0)) H (n + 2)).bind fun (o1 : Out) =>
  some (o1.t 1, o1.H, o1.n + 2)
theorem s61 (C : Calling) (L : Body → Body) (t : Tm) (H : Hp) (n : Nat) : bodyK Try.prog C L Try.f61 t H n = S61 C L t H n := by kernel_rfl
theorem c61 (args : List Value) (H : Hp) (n : Nat) : Call Try.prog 61 args H n = S61 (Call Try.prog) Loop (argsT args) H n := (Call_body Try.func61 args H n).trans (s61 ..)
/-! 62: laws.markDefS -/
noncomputable def S62L0 (C : Calling) (L : Body → Body) : Body := fun t H n =>
  (lenV false (t 0)).bind fun v2 =>
  (binK .plain .lss (t 5) v2).bind fun v3 =>
  csel v3
    ((C 107 [t 1] H (n + 11)).bind fun q4 =>
     (idxA 3 (t 0) (t 5)).bind fun v5 =>
     (fieldA 0 v5).bind fun v6 =>
     (st false 1 v6 q4.1 q4.2.1).bind fun H7 =>
     (binK .plain .add (t 1) (.int .i64 1)).bind fun v8 =>
     (idxA 3 (t 0) (t 5)).bind fun v9 =>
     (fieldA 1 v9).bind fun v10 =>
     (st false 1 v10 v8 H7).bind fun H11 =>
     (binK .plain .add v8 (.int .i64 1)).bind fun v12 =>
     (idxA 3 (t 0) (t 5)).bind fun v13 =>
     (fieldA 2 v13).bind fun v14 =>
     (st false 1 v14 v12 H11).bind fun H15 =>
     (binK .plain .add v12 (.int .i64 1)).bind fun v16 =>
     (binK .plain .add (t 5) (.int .i64 1)).bind fun v17 =>
     some ⟨.normal, put (put (put (put (put (put (put (put (put (put (put (put (put (put (put (put (put (put (put (put (put (put (put (put (put (put (put (put (put (put (put (put t 6 (t 5)) 7 (t 0)) 8 v2) 9 v3) 12 (t 0)) 13 (t 5)) 14 (t 1)) 15 q4.1) 16 v5) 17 v6) 18 (t 1)) 19 v8) 1 v8) 20 (t 0)) 21 (t 5)) 22 v8) 23 v9) 24 v10) 25 v8) 26 v12) 1 v12) 27 (t 0)) 28 (t 5)) 29 v12) 30 v13) 31 v14) 32 v12) 33 v16) 1 v16) 10 (t 5)) 11 v17) 5 v17, H15, q4.2.2 + 24⟩)
    (some ⟨(.exit 0), put (put (put (put t 6 (t 5)) 7 (t 0)) 8 v2) 9 v3, H, n + 4⟩)
noncomputable def S62 (C : Calling) (L : Body → Body) (t : Tm) (H : Hp) (n : Nat) : Option (Value × Hp × Nat) :=
  (L (S62L0 C L) (put (put t 4 (.int .i64 0)) 5 (.int .i64 0)) H (n + 2)).bind fun (o1 : Out) =>
  some (o1.t 1, o1.H, o1.n + 2)
theorem s62 (C : Calling) (L : Body → Body) (t : Tm) (H : Hp) (n : Nat) : bodyK Try.prog C L Try.f62 t H n = S62 C L t H n := by kernel_rfl
theorem c62 (args : List Value) (H : Hp) (n : Nat) : Call Try.prog 62 args H n = S62 (Call Try.prog) Loop (argsT args) H n := (Call_body Try.func62 args H n).trans (s62 ..)
/-! 63: laws.markNodeS -/
noncomputable def S63L0 (C : Calling) (L : Body → Body) : Body := fun t H n =>
  (lenV false (t 0)).bind fun v2 =>
  (binK .plain .lss (t 5) v2).bind fun v3 =>
  csel v3
    ((idxA 5 (t 0) (t 5)).bind fun v4 =>
     (fieldA 0 v4).bind fun v5 =>
     (st false 1 v5 (t 1) H).bind fun H6 =>
     (binK .plain .add (t 1) (.int .i64 1)).bind fun v7 =>
     (idxA 5 (t 0) (t 5)).bind fun v8 =>
     (fieldA 1 v8).bind fun v9 =>
     (st false 1 v9 v7 H6).bind fun H10 =>
     (binK .plain .add v7 (.int .i64 1)).bind fun v11 =>
     (C 107 [v11] H10 (n + 29)).bind fun q12 =>
     (idxA 5 (t 0) (t 5)).bind fun v13 =>
     (fieldA 2 v13).bind fun v14 =>
     (st false 1 v14 q12.1 q12.2.1).bind fun H15 =>
     (binK .plain .add v11 (.int .i64 1)).bind fun v16 =>
     (idxA 5 (t 0) (t 5)).bind fun v17 =>
     (fieldA 3 v17).bind fun v18 =>
     (st false 1 v18 v16 H15).bind fun H19 =>
     (binK .plain .add v16 (.int .i64 1)).bind fun v20 =>
     (idxA 5 (t 0) (t 5)).bind fun v21 =>
     (fieldA 4 v21).bind fun v22 =>
     (st false 1 v22 v20 H19).bind fun H23 =>
     (binK .plain .add v20 (.int .i64 1)).bind fun v24 =>
     (binK .plain .add (t 5) (.int .i64 1)).bind fun v25 =>
     some ⟨.normal, put (put (put (put (put (put (put (put (put (put (put (put (put (put (put (put (put (put (put (put (put (put (put (put (put (put (put (put (put (put (put (put (put (put (put (put (put (put (put (put (put (put (put (put (put (put (put (put t 6 (t 5)) 7 (t 0)) 8 v2) 9 v3) 12 (t 0)) 13 (t 5)) 14 (t 1)) 15 v4) 16 v5) 17 (t 1)) 18 v7) 1 v7) 19 (t 0)) 20 (t 5)) 21 v7) 22 v8) 23 v9) 24 v7) 25 v11) 1 v11) 26 (t 0)) 27 (t 5)) 28 v11) 29 q12.1) 30 v13) 31 v14) 32 v11) 33 v16) 1 v16) 34 (t 0)) 35 (t 5)) 36 v16) 37 v17) 38 v18) 39 v16) 40 v20) 1 v20) 41 (t 0)) 42 (t 5)) 43 v20) 44 v21) 45 v22) 46 v20) 47 v24) 1 v24) 10 (t 5)) 11 v25) 5 v25, H23, q12.2.2 + 24⟩)
    (some ⟨(.exit 0), put (put (put (put t 6 (t 5)) 7 (t 0)) 8 v2) 9 v3, H, n + 4⟩)
noncomputable def S63 (C : Calling) (L : Body → Body) (t : Tm) (H : Hp) (n : Nat) : Option (Value × Hp × Nat) :=
  (L (S63L0 C L) (put (put t 4 (.int .i64 0)) 5 (.int .i64 0)) H (n + 2)).bind fun (o1 : Out) =>
  some (o1.t 1, o1.H, o1.n + 2)
theorem s63 (C : Calling) (L : Body → Body) (t : Tm) (H : Hp) (n : Nat) : bodyK Try.prog C L Try.f63 t H n = S63 C L t H n := by kernel_rfl
theorem c63 (args : List Value) (H : Hp) (n : Nat) : Call Try.prog 63 args H n = S63 (Call Try.prog) Loop (argsT args) H n := (Call_body Try.func63 args H n).trans (s63 ..)
/-! 64: laws.heldPool -/
noncomputable def S64 (C : Calling) (L : Body → Body) (t : Tm) (H : Hp) (n : Nat) : Option (Value × Hp × Nat) :=
  (vcells (t 0)).bind fun c2 =>
  let H1 := H.set (n) (some (.row c2 0 true))
  (fieldA 0 (ptr (n) 0)).bind fun v3 =>
  (ld false 1 v3 H1).bind fun v4 =>
  (C 108 [v4, t 1] H1 (n + 7)).bind fun q5 =>
  (binK .plain .lss q5.1 (.int .i64 0)).bind fun v6 =>
  csel v6
    (some (.int .i64 (-1), q5.2.1, q5.2.2 + 3))
    (some (q5.1, q5.2.1, q5.2.2 + 4))
theorem s64 (C : Calling) (L : Body → Body) (t : Tm) (H : Hp) (n : Nat) : bodyK Try.prog C L Try.f64 t H n = S64 C L t H n := by kernel_rfl
theorem c64 (args : List Value) (H : Hp) (n : Nat) : Call Try.prog 64 args H n = S64 (Call Try.prog) Loop (argsT args) H n := (Call_body Try.func64 args H n).trans (s64 ..)
/-! 68: impl.instrOk -/
noncomputable def S68 (C : Calling) (L : Body → Body) (t : Tm) (H : Hp) (n : Nat) : Option (Value × Hp × Nat) :=
  (vcells (t 0)).bind fun c2 =>
  let H1 := H.set (n) (some (.row c2 0 true))
  (fieldA 1 (ptr (n) 0)).bind fun v3 =>
  (ld false 1 v3 H1).bind fun v4 =>
  (idxA 4 v4 (t 1)).bind fun v5 =>
  (ld true 4 v5 H1).bind fun v6 =>
  let H7 := H1.set (n + 7) (some (.row [.int .i64 0, .int .i64 0, .int .i64 0, .string ⟨#[]⟩] 0 true))
  (st true 4 (ptr (n + 7) 0) v6 H7).bind fun H8 =>
  (fieldA 1 (ptr (n + 7) 0)).bind fun v9 =>
  (ld false 1 v9 H8).bind fun v10 =>
  (binK .plain .eql v10 (.int .i64 0)).bind fun v11 =>
  (fieldA 2 (ptr (n + 7) 0)).bind fun v12 =>
  (ld false 1 v12 H8).bind fun v13 =>
  (binK .plain .eql v13 (.int .i64 0)).bind fun v14 =>
  (fieldA 3 (ptr (n + 7) 0)).bind fun v15 =>
  (ld false 1 v15 H8).bind fun v16 =>
  (binK .plain .eql v16 (.string ⟨#[]⟩)).bind fun v17 =>
  (fieldA 0 (ptr (n + 7) 0)).bind fun v18 =>
  (ld false 1 v18 H8).bind fun v19 =>
  (binK .plain .eql v19 (.int .i64 1)).bind fun v20 =>
  let t22 : Tm := put (put (put (put (put (put (put (put (put (put (put (put (put (put (put (put (put (put (put (put (put (put (put (put t 2 (ptr (n) 0)) 4 (.bool false)) 9 v3) 10 v4) 11 (t 1)) 12 v5) 13 v6) 5 (ptr (n + 7) 0)) 14 v9) 15 v10) 16 v11) 17 v12) 18 v13) 19 v14) 20 v15) 21 v16) 22 v17) 6 v11) 7 v14) 8 v17) 23 v18) 24 v19) 26 v20) 25 v20
  (csel v20
    ((fieldA 0 (ptr (n) 0)).bind fun v23 =>
     (ld true 1 v23 H8).bind fun v24 =>
     (fieldA 1 (ptr (n + 7) 0)).bind fun v25 =>
     (ld false 1 v25 H8).bind fun v26 =>
     (C 53 [v24, v26] H8 (n + 31)).bind fun q27 =>
     some ⟨.normal, put (put (put (put (put (put t22 27 v23) 28 v24) 29 v25) 30 v26) 31 q27.1) 6 q27.1, q27.2.1, q27.2.2⟩)
    ((binK .plain .eql v19 (.int .i64 2)).bind fun v28 =>
     let t30 : Tm := put (put t22 33 v28) 32 v28
     (csel v28
       ((fieldA 1 (ptr (n + 7) 0)).bind fun v31 =>
        (ld false 1 v31 H8).bind fun v32 =>
        (C 70 [v32, .int .i64 0, .int .i64 20] H8 (n + 35)).bind fun q33 =>
        (fieldA 2 (ptr (n + 7) 0)).bind fun v34 =>
        (ld false 1 v34 q33.2.1).bind fun v35 =>
        ask (ld false 1 v34 H8 = some v35) <|
        (C 70 [v35, .int .i64 0, .int .i64 3] q33.2.1 (q33.2.2)).bind fun q36 =>
        some ⟨.normal, put (put (put (put (put (put (put (put t30 34 v31) 35 v32) 36 q33.1) 37 v34) 38 v35) 39 q36.1) 6 q33.1) 7 q36.1, q36.2.1, q36.2.2⟩)
       ((binK .plain .eql v19 (.int .i64 3)).bind fun v37 =>
        let t39 : Tm := put (put t30 41 v37) 40 v37
        (csel v37
          ((fieldA 3 (ptr (n + 7) 0)).bind fun v40 =>
           (ld false 1 v40 H8).bind fun v41 =>
           (C 69 [v41] H8 (n + 33)).bind fun q42 =>
           some ⟨.normal, put (put (put (put t39 42 v40) 43 v41) 44 q42.1) 8 q42.1, q42.2.1, q42.2.2⟩)
          ((binK .plain .eql v19 (.int .i64 4)).bind fun v43 =>
           let t45 : Tm := put (put t39 46 v43) 45 v43
           (csel v43
             (some ⟨.normal, t45, H8, n + 31⟩)
             ((binK .plain .eql v19 (.int .i64 5)).bind fun v46 =>
              some ⟨.normal, put (put t45 47 v46) 45 v46, H8, n + 33⟩)
           ).bind fun (o44 : Out) =>
           (csel (o44.t 45)
             ((fieldA 1 (o44.t 5)).bind fun v49 =>
              (ld false 1 v49 o44.H).bind fun v50 =>
              (binK .plain .add (o44.t 1) (.int .i64 1)).bind fun v51 =>
              (fieldA 1 (o44.t 2)).bind fun v52 =>
              (ld false 1 v52 o44.H).bind fun v53 =>
              (lenV false v53).bind fun v54 =>
              (C 70 [v50, v51, v54] o44.H (o44.n + 9)).bind fun q55 =>
              some ⟨.normal, put (put (put (put (put (put (put (put (put o44.t 48 v49) 49 v50) 50 (o44.t 1)) 51 v51) 52 v52) 53 v53) 54 v54) 55 q55.1) 6 q55.1, q55.2.1, q55.2.2⟩)
             ((binK .plain .eql (o44.t 24) (.int .i64 6)).bind fun v56 =>
              let t58 : Tm := put (put o44.t 57 v56) 56 v56
              (csel v56
                ((fieldA 1 (t58 5)).bind fun v59 =>
                 (ld false 1 v59 o44.H).bind fun v60 =>
                 (binK .plain .add (t58 1) (.int .i64 1)).bind fun v61 =>
                 (fieldA 1 (t58 2)).bind fun v62 =>
                 (ld false 1 v62 o44.H).bind fun v63 =>
                 (lenV false v63).bind fun v64 =>
                 (binK .plain .sub v64 (.int .i64 1)).bind fun v65 =>
                 (C 70 [v60, v61, v65] o44.H (o44.n + 16)).bind fun q66 =>
                 (fieldA 2 (t58 5)).bind fun v67 =>
                 (ld false 1 v67 q66.2.1).bind fun v68 =>
                 ask (ld false 1 v67 o44.H = some v68) <|
                 (C 70 [v68, .int .i64 0, .int .i64 4] q66.2.1 (q66.2.2)).bind fun q69 =>
                 some ⟨.normal, put (put (put (put (put (put (put (put (put (put (put (put (put (put t58 58 v59) 59 v60) 60 (t58 1)) 61 v61) 62 v62) 63 v63) 64 v64) 65 v65) 66 q66.1) 67 v67) 68 v68) 69 q69.1) 6 q66.1) 7 q69.1, q69.2.1, q69.2.2⟩)
                ((binK .plain .eql (t58 24) (.int .i64 7)).bind fun v70 =>
                 let t72 : Tm := put (put t58 71 v70) 70 v70
                 (csel v70
                   ((fieldA 2 (t72 5)).bind fun v73 =>
                    (ld false 1 v73 o44.H).bind fun v74 =>
                    (C 70 [v74, .int .i64 0, .int .i64 4] o44.H (o44.n + 8)).bind fun q75 =>
                    some ⟨.normal, put (put (put (put t72 72 v73) 73 v74) 74 q75.1) 7 q75.1, q75.2.1, q75.2.2⟩)
                   ((binK .plain .eql (t72 24) (.int .i64 8)).bind fun v76 =>
                    let t78 : Tm := put (put t72 76 v76) 75 v76
                    (csel v76
                      (some ⟨.normal, t78, o44.H, o44.n + 6⟩)
                      ((binK .plain .eql (t78 24) (.int .i64 9)).bind fun v79 =>
                       some ⟨.normal, put (put t78 77 v79) 75 v79, o44.H, o44.n + 8⟩)
                    ).bind fun (o77 : Out) =>
                    csel (o77.t 75)
                      (some ⟨.normal, o77.t, o77.H, o77.n⟩)
                      (some ⟨.ret, put o77.t 4 (.bool false), o77.H, o77.n + 1⟩))
                 ).bind fun (o71 : Out) =>
                 some o71)
              ).bind fun (o57 : Out) =>
              some o57)
           ).bind fun (o47 : Out) =>
           some o47)
        ).bind fun (o38 : Out) =>
        some o38)
     ).bind fun (o29 : Out) =>
     some o29)
  ).bind fun (o21 : Out) =>
  let o80 := outOf 0 o21
  thenK o80
    ((pickV (o80.t 6) (gsel (o80.t 6) true (o80.t 7) (.tuple #[])) (.bool false)).bind fun v81 =>
     (pickV v81 (gsel v81 true (o80.t 8) (.tuple #[])) (.bool false)).bind fun v82 =>
     some (v82, o80.H, o80.n + 8))
    (finE o80.e
       (some (o80.t 4, o80.H, o80.n)))
theorem s68 (C : Calling) (L : Body → Body) (t : Tm) (H : Hp) (n : Nat) : bodyK Try.prog C L Try.f68 t H n = S68 C L t H n := by kernel_rfl
theorem c68 (args : List Value) (H : Hp) (n : Nat) : Call Try.prog 68 args H n = S68 (Call Try.prog) Loop (argsT args) H n := (Call_body Try.func68 args H n).trans (s68 ..)
/-! 69: impl.NameOk -/
noncomputable def S69L0 (C : Calling) (L : Body → Body) : Body := fun t H n =>
  (binK .plain .lss (t 10) (t 9)).bind fun v6 =>
  csel v6
    ((idxS (t 0) (t 10)).bind fun v7 =>
     (C 110 [v7] H (n + 8)).bind fun q8 =>
     (un .not q8.1).bind fun v9 =>
     csel v9
       (some ⟨.ret, put (put (put (put (put (put (put (put (put t 11 v6) 12 (t 10)) 3 (t 10)) 13 (t 0)) 14 (t 10)) 15 v7) 16 q8.1) 17 v9) 2 (.bool false), q8.2.1, q8.2.2 + 1⟩)
       ((binK .plain .add (t 10) (.int .i64 1)).bind fun v10 =>
        some ⟨.normal, put (put (put (put (put (put (put (put (put (put t 11 v6) 12 (t 10)) 3 (t 10)) 13 (t 0)) 14 (t 10)) 15 v7) 16 q8.1) 17 v9) 18 v10) 10 v10, q8.2.1, q8.2.2 + 2⟩))
    (some ⟨(.exit 0), put t 11 v6, H, n + 1⟩)
noncomputable def S69 (C : Calling) (L : Body → Body) (t : Tm) (H : Hp) (n : Nat) : Option (Value × Hp × Nat) :=
  (lenV true (t 0)).bind fun v1 =>
  (C 70 [v1, .int .i64 1, .int .i64 12] H (n + 5)).bind fun q2 =>
  (un .not q2.1).bind fun v3 =>
  csel v3
    (some (.bool false, q2.2.1, q2.2.2 + 1))
    ((lenV true (t 0)).bind fun v4 =>
     (L (S69L0 C L) (put (put (put (put (put (put (put (put t 2 (.bool false)) 4 (t 0)) 5 v1) 6 q2.1) 7 v3) 8 (t 0)) 9 v4) 10 (.int .i64 0)) q2.2.1 (q2.2.2 + 3)).bind fun (o5 : Out) =>
     let o11 := outOf 0 o5
     thenK o11
       (some (.bool true, o11.H, o11.n + 1))
       (finE o11.e
          (some (o11.t 2, o11.H, o11.n))))
theorem s69 (C : Calling) (L : Body → Body) (t : Tm) (H : Hp) (n : Nat) : bodyK Try.prog C L Try.f69 t H n = S69 C L t H n := by kernel_rfl
theorem c69 (args : List Value) (H : Hp) (n : Nat) : Call Try.prog 69 args H n = S69 (Call Try.prog) Loop (argsT args) H n := (Call_body Try.func69 args H n).trans (s69 ..)
/-! 70: impl.within -/
noncomputable def S70 (C : Calling) (L : Body → Body) (t : Tm) (H : Hp) (n : Nat) : Option (Value × Hp × Nat) :=
  (binK .plain .geq (t 0) (t 1)).bind fun v1 =>
  let t3 : Tm := put (put (put (put (put t 6 (.bool false)) 7 (t 0)) 8 (t 1)) 9 v1) 10 v1
  (gsel v1 true
    ((binK .plain .leq (t3 0) (t3 2)).bind fun v4 =>
     some (put (put (put t3 11 (t3 0)) 12 (t3 2)) 13 v4, H, n + 10))
    (some (put (put (put t3 11 (.tuple #[])) 12 (.tuple #[])) 13 (.tuple #[]), H, n + 10))
  ).bind fun (q2 : R3) =>
  (pickV (q2.1 10) (q2.1 13) (.bool false)).bind fun v5 =>
  some (v5, q2.2.1, q2.2.2)
theorem s70 (C : Calling) (L : Body → Body) (t : Tm) (H : Hp) (n : Nat) : bodyK Try.prog C L Try.f70 t H n = S70 C L t H n := by kernel_rfl
theorem c70 (args : List Value) (H : Hp) (n : Nat) : Call Try.prog 70 args H n = S70 (Call Try.prog) Loop (argsT args) H n := (Call_body Try.func70 args H n).trans (s70 ..)
/-! 71: impl.Def] -/
noncomputable def S71L0 (C : Calling) (L : Body → Body) : Body := fun t H n =>
  (binK .plain .lss (t 8) (t 7)).bind fun v3 =>
  csel v3
    ((idxA 3 (t 0) (t 8)).bind fun v4 =>
     (ld true 3 v4 H).bind fun v5 =>
     (calleeP (t 1) [v5]).bind fun c7 =>
     (C c7.1 c7.2 H (n + 9)).bind fun q6 =>
     csel q6.1
       (some ⟨.ret, put (put (put (put (put (put (put (put (put (put (put t 9 v3) 10 (t 8)) 5 (t 8)) 11 (t 1)) 12 (t 0)) 13 (t 8)) 14 v4) 15 v5) 16 q6.1) 17 (t 8)) 4 (t 8), q6.2.1, q6.2.2 + 2⟩)
       ((binK .plain .add (t 8) (.int .i64 1)).bind fun v8 =>
        some ⟨.normal, put (put (put (put (put (put (put (put (put (put (put t 9 v3) 10 (t 8)) 5 (t 8)) 11 (t 1)) 12 (t 0)) 13 (t 8)) 14 v4) 15 v5) 16 q6.1) 18 v8) 8 v8, q6.2.1, q6.2.2 + 2⟩))
    (some ⟨(.exit 0), put t 9 v3, H, n + 1⟩)
noncomputable def S71 (C : Calling) (L : Body → Body) (t : Tm) (H : Hp) (n : Nat) : Option (Value × Hp × Nat) :=
  (lenV false (t 0)).bind fun v1 =>
  (L (S71L0 C L) (put (put (put (put t 4 (.int .i64 0)) 6 (t 0)) 7 v1) 8 (.int .i64 0)) H (n + 4)).bind fun (o2 : Out) =>
  let o9 := outOf 0 o2
  thenK o9
    (some (.int .i64 (-1), o9.H, o9.n + 1))
    (finE o9.e
       (some (o9.t 4, o9.H, o9.n)))
theorem s71 (C : Calling) (L : Body → Body) (t : Tm) (H : Hp) (n : Nat) : bodyK Try.prog C L Try.f71 t H n = S71 C L t H n := by kernel_rfl
theorem c71 (args : List Value) (H : Hp) (n : Nat) : Call Try.prog 71 args H n = S71 (Call Try.prog) Loop (argsT args) H n := (Call_body Try.func71 args H n).trans (s71 ..)
/-! 72: impl.DefOf$1 -/
noncomputable def S72 (C : Calling) (L : Body → Body) (t : Tm) (H : Hp) (n : Nat) : Option (Value × Hp × Nat) :=
  (vcells (t 0)).bind fun c2 =>
  let H1 := H.set (n) (some (.row c2 0 true))
  (fieldA 0 (ptr (n) 0)).bind fun v3 =>
  (ld false 1 v3 H1).bind fun v4 =>
  (ld false 1 (t 1) H1).bind fun v5 =>
  (binK .plain .eql v4 v5).bind fun v6 =>
  some (v6, H1, n + 7)
theorem s72 (C : Calling) (L : Body → Body) (t : Tm) (H : Hp) (n : Nat) : bodyK Try.prog C L Try.f72 t H n = S72 C L t H n := by kernel_rfl
theorem c72 (args : List Value) (H : Hp) (n : Nat) : Call Try.prog 72 args H n = S72 (Call Try.prog) Loop (argsT args) H n := (Call_body Try.func72 args H n).trans (s72 ..)
/-! 73: spec.l4Instr -/
noncomputable def S73 (C : Calling) (L : Body → Body) (t : Tm) (H : Hp) (n : Nat) : Option (Value × Hp × Nat) :=
  (vcells (t 0)).bind fun c2 =>
  let H1 := H.set (n) (some (.row c2 0 true))
  (fieldA 1 (ptr (n) 0)).bind fun v3 =>
  (ld false 1 v3 H1).bind fun v4 =>
  (idxA 4 v4 (t 1)).bind fun v5 =>
  (ld true 4 v5 H1).bind fun v6 =>
  let H7 := H1.set (n + 7) (some (.row [.int .i64 0, .int .i64 0, .int .i64 0, .string ⟨#[]⟩] 0 true))
  (st true 4 (ptr (n + 7) 0) v6 H7).bind fun H8 =>
  (fieldA 1 (ptr (n) 0)).bind fun v9 =>
  (ld false 1 v9 H8).bind fun v10 =>
  (lenV false v10).bind fun v11 =>
  (fieldA 0 (ptr (n + 7) 0)).bind fun v12 =>
  (ld false 1 v12 H8).bind fun v13 =>
  (bld [.int .i64 0, .int .i64 0, .int .i64 0, .string ⟨#[]⟩] [(0, 1, v13)]).bind fun v14 =>
  let H15 := H8.set (n + 16) (some (.row [.int .i64 0, .int .i64 0, .int .i64 0, .string ⟨#[]⟩] 0 true))
  (st true 4 (ptr (n + 16) 0) v14 H15).bind fun H16 =>
  (fieldA 0 (ptr (n + 7) 0)).bind fun v17 =>
  (ld false 1 v17 H16).bind fun v18 =>
  (binK .plain .eql v18 (.int .i64 1)).bind fun v19 =>
  csel v19
    ((fieldA 1 (ptr (n + 7) 0)).bind fun v20 =>
     (ld false 1 v20 H16).bind fun v21 =>
     (fieldA 1 (ptr (n + 16) 0)).bind fun v22 =>
     (st false 1 v22 v21 H16).bind fun H23 =>
     (ld true 4 (ptr (n + 7) 0) H23).bind fun v24 =>
     (ld true 4 (ptr (n + 16) 0) H23).bind fun v25 =>
     (binK (.agg [(0, (.int .i64)), (1, (.int .i64)), (2, (.int .i64)), (3, .string)]) .eql v24 v25).bind fun v26 =>
     let t28 : Tm := put (put (put (put (put (put (put (put (put (put (put (put (put (put (put (put (put (put (put (put (put (put (put (put (put (put (put t 2 (ptr (n) 0)) 4 (.bool false)) 8 v3) 9 v4) 10 (t 1)) 11 v5) 12 v6) 5 (ptr (n + 7) 0)) 13 v9) 14 v10) 15 v11) 6 v11) 16 v12) 17 v13) 18 v14) 7 (ptr (n + 16) 0)) 19 v17) 20 v18) 22 v19) 21 v19) 23 v20) 24 v21) 25 v22) 26 v24) 27 v25) 28 v26) 29 v26
     (gsel v26 true
       ((fieldA 0 (ptr (n) 0)).bind fun v29 =>
        (ld true 1 v29 H23).bind fun v30 =>
        (fieldA 1 (ptr (n + 7) 0)).bind fun v31 =>
        (ld false 1 v31 H23).bind fun v32 =>
        (C 46 [v30, v32] H23 (n + 37)).bind fun q33 =>
        some (put (put (put (put (put t28 30 v29) 31 v30) 32 v31) 33 v32) 34 q33.1, q33.2.1, q33.2.2))
       (some (put (put (put (put (put t28 30 (.tuple #[])) 31 (.tuple #[])) 32 (.tuple #[])) 33 (.tuple #[])) 34 (.tuple #[]), H23, n + 37))
     ).bind fun (q27 : R3) =>
     (pickV (q27.1 29) (q27.1 34) (.bool false)).bind fun v34 =>
     some (v34, q27.2.1, q27.2.2))
    ((binK .plain .eql v18 (.int .i64 2)).bind fun v35 =>
     csel v35
       ((fieldA 3 (ptr (n + 7) 0)).bind fun v36 =>
        (ld false 1 v36 H16).bind fun v37 =>
        (binK .plain .eql v37 (.string ⟨#[]⟩)).bind fun v38 =>
        let t40 : Tm := put (put (put (put (put (put (put (put (put (put (put (put (put (put (put (put (put (put (put (put (put (put (put (put (put (put t 2 (ptr (n) 0)) 4 (.bool false)) 8 v3) 9 v4) 10 (t 1)) 11 v5) 12 v6) 5 (ptr (n + 7) 0)) 13 v9) 14 v10) 15 v11) 6 v11) 16 v12) 17 v13) 18 v14) 7 (ptr (n + 16) 0)) 19 v17) 20 v18) 22 v19) 21 v19) 37 v35) 36 v35) 38 v36) 39 v37) 40 v38) 41 v38
        (gsel v38 true
          ((fieldA 1 (ptr (n + 7) 0)).bind fun v41 =>
           (ld false 1 v41 H16).bind fun v42 =>
           (C 75 [v42, .int .i64 0, .int .i64 20] H16 (n + 38)).bind fun q43 =>
           some (put (put (put t40 42 v41) 43 v42) 44 q43.1, q43.2.1, q43.2.2))
          (some (put (put (put t40 42 (.tuple #[])) 43 (.tuple #[])) 44 (.tuple #[]), H16, n + 38))
        ).bind fun (q39 : R3) =>
        (pickV (q39.1 41) (q39.1 44) (.bool false)).bind fun v44 =>
        let t46 : Tm := put (put q39.1 45 v44) 46 v44
        (gsel v44 true
          ((fieldA 2 (t46 5)).bind fun v47 =>
           (ld false 1 v47 q39.2.1).bind fun v48 =>
           (C 75 [v48, .int .i64 0, .int .i64 3] q39.2.1 (q39.2.2)).bind fun q49 =>
           some (put (put (put t46 47 v47) 48 v48) 49 q49.1, q49.2.1, q49.2.2))
          (some (put (put (put t46 47 (.tuple #[])) 48 (.tuple #[])) 49 (.tuple #[]), q39.2.1, q39.2.2))
        ).bind fun (q45 : R3) =>
        (pickV (q45.1 46) (q45.1 49) (.bool false)).bind fun v50 =>
        some (v50, q45.2.1, q45.2.2))
       ((binK .plain .eql v18 (.int .i64 3)).bind fun v51 =>
        csel v51
          ((fieldA 3 (ptr (n + 7) 0)).bind fun v52 =>
           (ld false 1 v52 H16).bind fun v53 =>
           (fieldA 3 (ptr (n + 16) 0)).bind fun v54 =>
           (st false 1 v54 v53 H16).bind fun H55 =>
           (ld true 4 (ptr (n + 7) 0) H55).bind fun v56 =>
           (ld true 4 (ptr (n + 16) 0) H55).bind fun v57 =>
           (binK (.agg [(0, (.int .i64)), (1, (.int .i64)), (2, (.int .i64)), (3, .string)]) .eql v56 v57).bind fun v58 =>
           let t60 : Tm := put (put (put (put (put (put (put (put (put (put (put (put (put (put (put (put (put (put (put (put (put (put (put (put (put (put (put (put (put (put (put t 2 (ptr (n) 0)) 4 (.bool false)) 8 v3) 9 v4) 10 (t 1)) 11 v5) 12 v6) 5 (ptr (n + 7) 0)) 13 v9) 14 v10) 15 v11) 6 v11) 16 v12) 17 v13) 18 v14) 7 (ptr (n + 16) 0)) 19 v17) 20 v18) 22 v19) 21 v19) 37 v35) 36 v35) 52 v51) 51 v51) 53 v52) 54 v53) 55 v54) 56 v56) 57 v57) 58 v58) 59 v58
           (gsel v58 true
             ((fieldA 3 (ptr (n + 7) 0)).bind fun v61 =>
              (ld false 1 v61 H55).bind fun v62 =>
              (C 74 [v62] H55 (n + 39)).bind fun q63 =>
              some (put (put (put t60 60 v61) 61 v62) 62 q63.1, q63.2.1, q63.2.2))
             (some (put (put (put t60 60 (.tuple #[])) 61 (.tuple #[])) 62 (.tuple #[]), H55, n + 39))
           ).bind fun (q59 : R3) =>
           (pickV (q59.1 59) (q59.1 62) (.bool false)).bind fun v64 =>
           some (v64, q59.2.1, q59.2.2))
          ((binK .plain .eql v18 (.int .i64 4)).bind fun v65 =>
           let t67 : Tm := put (put (put (put (put (put (put (put (put (put (put (put (put (put (put (put (put (put (put (put (put (put (put (put (put (put t 2 (ptr (n) 0)) 4 (.bool false)) 8 v3) 9 v4) 10 (t 1)) 11 v5) 12 v6) 5 (ptr (n + 7) 0)) 13 v9) 14 v10) 15 v11) 6 v11) 16 v12) 17 v13) 18 v14) 7 (ptr (n + 16) 0)) 19 v17) 20 v18) 22 v19) 21 v19) 37 v35) 36 v35) 52 v51) 51 v51) 65 v65) 64 v65
           (csel v65
             (some ⟨.normal, t67, H16, n + 28⟩)
             ((binK .plain .eql v18 (.int .i64 5)).bind fun v68 =>
              some ⟨.normal, put (put t67 66 v68) 64 v68, H16, n + 30⟩)
           ).bind fun (o66 : Out) =>
           csel (o66.t 64)
             ((fieldA 1 (o66.t 5)).bind fun v69 =>
              (ld false 1 v69 o66.H).bind fun v70 =>
              (fieldA 1 (o66.t 7)).bind fun v71 =>
              (st false 1 v71 v70 o66.H).bind fun H72 =>
              (ld true 4 (o66.t 5) H72).bind fun v73 =>
              (ld true 4 (o66.t 7) H72).bind fun v74 =>
              (binK (.agg [(0, (.int .i64)), (1, (.int .i64)), (2, (.int .i64)), (3, .string)]) .eql v73 v74).bind fun v75 =>
              let t77 : Tm := put (put (put (put (put (put (put o66.t 67 v69) 68 v70) 69 v71) 70 v73) 71 v74) 72 v75) 73 v75
              (gsel v75 true
                ((fieldA 1 (t77 5)).bind fun v78 =>
                 (ld false 1 v78 H72).bind fun v79 =>
                 (binK .plain .gtr v79 (t77 1)).bind fun v80 =>
                 some (put (put (put (put t77 74 v78) 75 v79) 76 (t77 1)) 77 v80, H72, o66.n + 20))
                (some (put (put (put (put t77 74 (.tuple #[])) 75 (.tuple #[])) 76 (.tuple #[])) 77 (.tuple #[]), H72, o66.n + 20))
              ).bind fun (q76 : R3) =>
              (pickV (q76.1 73) (q76.1 77) (.bool false)).bind fun v81 =>
              let t83 : Tm := put (put q76.1 78 v81) 79 v81
              (gsel v81 true
                ((fieldA 1 (t83 5)).bind fun v84 =>
                 (ld false 1 v84 q76.2.1).bind fun v85 =>
                 (binK .plain .leq v85 (t83 6)).bind fun v86 =>
                 some (put (put (put (put t83 80 v84) 81 v85) 82 (t83 6)) 83 v86, q76.2.1, q76.2.2))
                (some (put (put (put (put t83 80 (.tuple #[])) 81 (.tuple #[])) 82 (.tuple #[])) 83 (.tuple #[]), q76.2.1, q76.2.2))
              ).bind fun (q82 : R3) =>
              (pickV (q82.1 79) (q82.1 83) (.bool false)).bind fun v87 =>
              some (v87, q82.2.1, q82.2.2))
             ((binK .plain .eql (o66.t 20) (.int .i64 6)).bind fun v88 =>
              csel v88
                ((fieldA 3 (o66.t 5)).bind fun v89 =>
                 (ld false 1 v89 o66.H).bind fun v90 =>
                 (binK .plain .eql v90 (.string ⟨#[]⟩)).bind fun v91 =>
                 let t93 : Tm := put (put (put (put (put (put o66.t 86 v88) 85 v88) 87 v89) 88 v90) 89 v91) 90 v91
                 (gsel v91 true
                   ((fieldA 1 (t93 5)).bind fun v94 =>
                    (ld false 1 v94 o66.H).bind fun v95 =>
                    (binK .plain .gtr v95 (t93 1)).bind fun v96 =>
                    some (put (put (put (put t93 91 v94) 92 v95) 93 (t93 1)) 94 v96, o66.H, o66.n + 23))
                   (some (put (put (put (put t93 91 (.tuple #[])) 92 (.tuple #[])) 93 (.tuple #[])) 94 (.tuple #[]), o66.H, o66.n + 23))
                 ).bind fun (q92 : R3) =>
                 (pickV (q92.1 90) (q92.1 94) (.bool false)).bind fun v97 =>
                 let t99 : Tm := put (put q92.1 95 v97) 96 v97
                 (gsel v97 true
                   ((fieldA 1 (t99 5)).bind fun v100 =>
                    (ld false 1 v100 q92.2.1).bind fun v101 =>
                    (binK .plain .lss v101 (t99 6)).bind fun v102 =>
                    some (put (put (put (put t99 97 v100) 98 v101) 99 (t99 6)) 100 v102, q92.2.1, q92.2.2))
                   (some (put (put (put (put t99 97 (.tuple #[])) 98 (.tuple #[])) 99 (.tuple #[])) 100 (.tuple #[]), q92.2.1, q92.2.2))
                 ).bind fun (q98 : R3) =>
                 (pickV (q98.1 96) (q98.1 100) (.bool false)).bind fun v103 =>
                 let t105 : Tm := put (put q98.1 101 v103) 102 v103
                 (gsel v103 true
                   ((fieldA 2 (t105 5)).bind fun v106 =>
                    (ld false 1 v106 q98.2.1).bind fun v107 =>
                    (C 75 [v107, .int .i64 0, .int .i64 4] q98.2.1 (q98.2.2)).bind fun q108 =>
                    some (put (put (put t105 103 v106) 104 v107) 105 q108.1, q108.2.1, q108.2.2))
                   (some (put (put (put t105 103 (.tuple #[])) 104 (.tuple #[])) 105 (.tuple #[]), q98.2.1, q98.2.2))
                 ).bind fun (q104 : R3) =>
                 (pickV (q104.1 102) (q104.1 105) (.bool false)).bind fun v109 =>
                 some (v109, q104.2.1, q104.2.2))
                ((binK .plain .eql (o66.t 20) (.int .i64 7)).bind fun v110 =>
                 csel v110
                   ((fieldA 2 (o66.t 5)).bind fun v111 =>
                    (ld false 1 v111 o66.H).bind fun v112 =>
                    (fieldA 2 (o66.t 7)).bind fun v113 =>
                    (st false 1 v113 v112 o66.H).bind fun H114 =>
                    (ld true 4 (o66.t 5) H114).bind fun v115 =>
                    (ld true 4 (o66.t 7) H114).bind fun v116 =>
                    (binK (.agg [(0, (.int .i64)), (1, (.int .i64)), (2, (.int .i64)), (3, .string)]) .eql v115 v116).bind fun v117 =>
                    let t119 : Tm := put (put (put (put (put (put (put (put (put (put (put o66.t 86 v88) 85 v88) 108 v110) 107 v110) 109 v111) 110 v112) 111 v113) 112 v115) 113 v116) 114 v117) 115 v117
                    (gsel v117 true
                      ((fieldA 2 (t119 5)).bind fun v120 =>
                       (ld false 1 v120 H114).bind fun v121 =>
                       (C 75 [v121, .int .i64 0, .int .i64 4] H114 (o66.n + 17)).bind fun q122 =>
                       some (put (put (put t119 116 v120) 117 v121) 118 q122.1, q122.2.1, q122.2.2))
                      (some (put (put (put t119 116 (.tuple #[])) 117 (.tuple #[])) 118 (.tuple #[]), H114, o66.n + 17))
                    ).bind fun (q118 : R3) =>
                    (pickV (q118.1 115) (q118.1 118) (.bool false)).bind fun v123 =>
                    some (v123, q118.2.1, q118.2.2))
                   ((binK .plain .eql (o66.t 20) (.int .i64 8)).bind fun v124 =>
                    let t126 : Tm := put (put (put (put (put (put o66.t 86 v88) 85 v88) 108 v110) 107 v110) 121 v124) 120 v124
                    (csel v124
                      (some ⟨.normal, t126, o66.H, o66.n + 6⟩)
                      ((binK .plain .eql (t126 20) (.int .i64 9)).bind fun v127 =>
                       some ⟨.normal, put (put t126 122 v127) 120 v127, o66.H, o66.n + 8⟩)
                    ).bind fun (o125 : Out) =>
                    csel (o125.t 120)
                      ((ld true 4 (o125.t 5) o125.H).bind fun v128 =>
                       (ld true 4 (o125.t 7) o125.H).bind fun v129 =>
                       (binK (.agg [(0, (.int .i64)), (1, (.int .i64)), (2, (.int .i64)), (3, .string)]) .eql v128 v129).bind fun v130 =>
                       some (v130, o125.H, o125.n + 4))
                      (some (.bool false, o125.H, o125.n + 1))))))))
theorem s73 (C : Calling) (L : Body → Body) (t : Tm) (H : Hp) (n : Nat) : bodyK Try.prog C L Try.f73 t H n = S73 C L t H n := by kernel_rfl
theorem c73 (args : List Value) (H : Hp) (n : Nat) : Call Try.prog 73 args H n = S73 (Call Try.prog) Loop (argsT args) H n := (Call_body Try.func73 args H n).trans (s73 ..)
/-! 74: spec.NameOk -/
noncomputable def S74L0 (C : Calling) (L : Body → Body) : Body := fun t H n =>
  (lenV true (t 0)).bind fun v2 =>
  (binK .plain .lss (t 3) v2).bind fun v3 =>
  csel v3
    ((idxS (t 0) (t 3)).bind fun v4 =>
     (C 111 [v4] H (n + 9)).bind fun q5 =>
     (un .not q5.1).bind fun v6 =>
     csel v6
       (some ⟨.ret, put (put (put (put (put (put (put (put (put (put t 4 (t 3)) 5 (t 0)) 6 v2) 7 v3) 10 (t 0)) 11 (t 3)) 12 v4) 13 q5.1) 14 v6) 2 (.bool false), q5.2.1, q5.2.2 + 1⟩)
       ((binK .plain .add (t 3) (.int .i64 1)).bind fun v7 =>
        some ⟨.normal, put (put (put (put (put (put (put (put (put (put (put (put t 4 (t 3)) 5 (t 0)) 6 v2) 7 v3) 10 (t 0)) 11 (t 3)) 12 v4) 13 q5.1) 14 v6) 8 (t 3)) 9 v7) 3 v7, q5.2.1, q5.2.2 + 3⟩))
    (some ⟨(.exit 0), put (put (put (put t 4 (t 3)) 5 (t 0)) 6 v2) 7 v3, H, n + 4⟩)
noncomputable def S74 (C : Calling) (L : Body → Body) (t : Tm) (H : Hp) (n : Nat) : Option (Value × Hp × Nat) :=
  (L (S74L0 C L) (put (put t 2 (.bool false)) 3 (.int .i64 0)) H (n + 2)).bind fun (o1 : Out) =>
  let o8 := outOf 0 o1
  thenK o8
    ((lenV true (o8.t 0)).bind fun v9 =>
     (C 75 [v9, .int .i64 1, .int .i64 12] o8.H (o8.n + 4)).bind fun q10 =>
     some (q10.1, q10.2.1, q10.2.2))
    (finE o8.e
       (some (o8.t 2, o8.H, o8.n)))
theorem s74 (C : Calling) (L : Body → Body) (t : Tm) (H : Hp) (n : Nat) : bodyK Try.prog C L Try.f74 t H n = S74 C L t H n := by kernel_rfl
theorem c74 (args : List Value) (H : Hp) (n : Nat) : Call Try.prog 74 args H n = S74 (Call Try.prog) Loop (argsT args) H n := (Call_body Try.func74 args H n).trans (s74 ..)
/-! 75: spec.l1In -/
noncomputable def S75 (C : Calling) (L : Body → Body) (t : Tm) (H : Hp) (n : Nat) : Option (Value × Hp × Nat) :=
  (binK .plain .geq (t 0) (t 1)).bind fun v1 =>
  let t3 : Tm := put (put (put (put (put t 6 (.bool false)) 7 (t 0)) 8 (t 1)) 9 v1) 10 v1
  (gsel v1 true
    ((binK .plain .leq (t3 0) (t3 2)).bind fun v4 =>
     some (put (put (put t3 11 (t3 0)) 12 (t3 2)) 13 v4, H, n + 10))
    (some (put (put (put t3 11 (.tuple #[])) 12 (.tuple #[])) 13 (.tuple #[]), H, n + 10))
  ).bind fun (q2 : R3) =>
  (pickV (q2.1 10) (q2.1 13) (.bool false)).bind fun v5 =>
  some (v5, q2.2.1, q2.2.2)
theorem s75 (C : Calling) (L : Body → Body) (t : Tm) (H : Hp) (n : Nat) : bodyK Try.prog C L Try.f75 t H n = S75 C L t H n := by kernel_rfl
theorem c75 (args : List Value) (H : Hp) (n : Nat) : Call Try.prog 75 args H n = S75 (Call Try.prog) Loop (argsT args) H n := (Call_body Try.func75 args H n).trans (s75 ..)
/-! 95: laws.szInstr -/
noncomputable def S95 (C : Calling) (L : Body → Body) (t : Tm) (H : Hp) (n : Nat) : Option (Value × Hp × Nat) :=
  (vcells (t 0)).bind fun c2 =>
  let H1 := H.set (n) (some (.row c2 0 true))
  (fieldA 3 (ptr (n) 0)).bind fun v3 =>
  (ld false 1 v3 H1).bind fun v4 =>
  (lenV true v4).bind fun v5 =>
  (binK .plain .sub (t 1) v5).bind fun v6 =>
  (binK .plain .lss v6 (.int .i64 0)).bind fun v7 =>
  csel v7
    (some (.int .i64 (-1), H1, n + 11))
    (some (v6, H1, n + 12))
theorem s95 (C : Calling) (L : Body → Body) (t : Tm) (H : Hp) (n : Nat) : bodyK Try.prog C L Try.f95 t H n = S95 C L t H n := by kernel_rfl
theorem c95 (args : List Value) (H : Hp) (n : Nat) : Call Try.prog 95 args H n = S95 (Call Try.prog) Loop (argsT args) H n := (Call_body Try.func95 args H n).trans (s95 ..)
/-! 96: laws.szDef -/
noncomputable def S96 (C : Calling) (L : Body → Body) (t : Tm) (H : Hp) (n : Nat) : Option (Value × Hp × Nat) :=
  (vcells (t 0)).bind fun c2 =>
  let H1 := H.set (n) (some (.row c2 0 true))
  (fieldA 0 (ptr (n) 0)).bind fun v3 =>
  (ld false 1 v3 H1).bind fun v4 =>
  (lenV true v4).bind fun v5 =>
  (binK .plain .sub (t 1) v5).bind fun v6 =>
  (binK .plain .lss v6 (.int .i64 0)).bind fun v7 =>
  csel v7
    (some (.int .i64 (-1), H1, n + 11))
    (some (v6, H1, n + 12))
theorem s96 (C : Calling) (L : Body → Body) (t : Tm) (H : Hp) (n : Nat) : bodyK Try.prog C L Try.f96 t H n = S96 C L t H n := by kernel_rfl
theorem c96 (args : List Value) (H : Hp) (n : Nat) : Call Try.prog 96 args H n = S96 (Call Try.prog) Loop (argsT args) H n := (Call_body Try.func96 args H n).trans (s96 ..)
/-! 97: laws.szNode -/
noncomputable def S97 (C : Calling) (L : Body → Body) (t : Tm) (H : Hp) (n : Nat) : Option (Value × Hp × Nat) :=
  (vcells (t 0)).bind fun c2 =>
  let H1 := H.set (n) (some (.row c2 0 true))
  (fieldA 2 (ptr (n) 0)).bind fun v3 =>
  (ld false 1 v3 H1).bind fun v4 =>
  (lenV true v4).bind fun v5 =>
  (binK .plain .sub (t 1) v5).bind fun v6 =>
  (binK .plain .lss v6 (.int .i64 0)).bind fun v7 =>
  csel v7
    (some (.int .i64 (-1), H1, n + 11))
    (some (v6, H1, n + 12))
theorem s97 (C : Calling) (L : Body → Body) (t : Tm) (H : Hp) (n : Nat) : bodyK Try.prog C L Try.f97 t H n = S97 C L t H n := by kernel_rfl
theorem c97 (args : List Value) (H : Hp) (n : Nat) : Call Try.prog 97 args H n = S97 (Call Try.prog) Loop (argsT args) H n := (Call_body Try.func97 args H n).trans (s97 ..)
/-! 98: spec.l2Node -/
noncomputable def S98 (C : Calling) (L : Body → Body) (t : Tm) (H : Hp) (n : Nat) : Option (Value × Hp × Nat) :=
  (vcells (t 0)).bind fun c2 =>
  let H1 := H.set (n) (some (.row c2 0 true))
  (fieldA 3 (ptr (n) 0)).bind fun v3 =>
  (ld false 1 v3 H1).bind fun v4 =>
  (binK .plain .sub (t 1) (.int .i64 1)).bind fun v5 =>
  (C 75 [v4, .int .i64 0, v5] H1 (n + 8)).bind fun q6 =>
  (fieldA 4 (ptr (n) 0)).bind fun v7 =>
  (ld false 1 v7 q6.2.1).bind fun v8 =>
  (binK .plain .sub (t 1) (.int .i64 1)).bind fun v9 =>
  (C 75 [v8, .int .i64 0, v9] q6.2.1 (q6.2.2 + 6)).bind fun q10 =>
  (fieldA 0 (ptr (n) 0)).bind fun v11 =>
  (ld false 1 v11 q10.2.1).bind fun v12 =>
  (binK .plain .eql v12 (.int .i64 1)).bind fun v13 =>
  csel v13
    ((ld true 5 (ptr (n) 0) q10.2.1).bind fun v14 =>
     (bld [.int .i64 0, .int .i64 0, .string ⟨#[]⟩, .int .i64 0, .int .i64 0] [(0, 1, .int .i64 1)]).bind fun v15 =>
     (binK (.agg [(0, (.int .i64)), (1, (.int .i64)), (2, .string), (3, (.int .i64)), (4, (.int .i64))]) .eql v14 v15).bind fun v16 =>
     some (v16, q10.2.1, q10.2.2 + 8))
    ((binK .plain .eql v12 (.int .i64 2)).bind fun v17 =>
     csel v17
       ((fieldA 1 (ptr (n) 0)).bind fun v18 =>
        (ld false 1 v18 q10.2.1).bind fun v19 =>
        (C 75 [v19, .int .i64 0, .int .i64 1] q10.2.1 (q10.2.2 + 17)).bind fun q20 =>
        let t22 : Tm := put (put (put (put (put (put (put (put (put (put (put (put (put (put (put (put (put (put (put (put (put (put (put (put t 2 (ptr (n) 0)) 4 (.bool false)) 7 v3) 8 v4) 9 (t 1)) 10 v5) 11 q6.1) 5 q6.1) 12 v7) 13 v8) 14 (t 1)) 15 v9) 16 q10.1) 6 q10.1) 17 v11) 18 v12) 20 v13) 19 v13) 25 v17) 24 v17) 26 v18) 27 v19) 28 q20.1) 29 q20.1
        (gsel q20.1 true
          ((ld true 5 (ptr (n) 0) q20.2.1).bind fun v23 =>
           (fieldA 1 (ptr (n) 0)).bind fun v24 =>
           (ld false 1 v24 q20.2.1).bind fun v25 =>
           (bld [.int .i64 0, .int .i64 0, .string ⟨#[]⟩, .int .i64 0, .int .i64 0] [(0, 1, .int .i64 2), (1, 1, v25)]).bind fun v26 =>
           (binK (.agg [(0, (.int .i64)), (1, (.int .i64)), (2, .string), (3, (.int .i64)), (4, (.int .i64))]) .eql v23 v26).bind fun v27 =>
           some (put (put (put (put (put t22 30 v23) 31 v24) 32 v25) 33 v26) 34 v27, q20.2.1, q20.2.2))
          (some (put (put (put (put (put t22 30 (.tuple #[])) 31 (.tuple #[])) 32 (.tuple #[])) 33 (.tuple #[])) 34 (.tuple #[]), q20.2.1, q20.2.2))
        ).bind fun (q21 : R3) =>
        (pickV (q21.1 29) (q21.1 34) (.bool false)).bind fun v28 =>
        some (v28, q21.2.1, q21.2.2))
       ((binK .plain .eql v12 (.int .i64 3)).bind fun v29 =>
        csel v29
          ((fieldA 1 (ptr (n) 0)).bind fun v30 =>
           (ld false 1 v30 q10.2.1).bind fun v31 =>
           (C 75 [v31, .int .i64 (-1000000000), .int .i64 1000000000] q10.2.1 (q10.2.2 + 19)).bind fun q32 =>
           let t34 : Tm := put (put (put (put (put (put (put (put (put (put (put (put (put (put (put (put (put (put (put (put (put (put (put (put (put (put t 2 (ptr (n) 0)) 4 (.bool false)) 7 v3) 8 v4) 9 (t 1)) 10 v5) 11 q6.1) 5 q6.1) 12 v7) 13 v8) 14 (t 1)) 15 v9) 16 q10.1) 6 q10.1) 17 v11) 18 v12) 20 v13) 19 v13) 25 v17) 24 v17) 37 v29) 36 v29) 38 v30) 39 v31) 40 q32.1) 41 q32.1
           (gsel q32.1 true
             ((ld true 5 (ptr (n) 0) q32.2.1).bind fun v35 =>
              (fieldA 1 (ptr (n) 0)).bind fun v36 =>
              (ld false 1 v36 q32.2.1).bind fun v37 =>
              (bld [.int .i64 0, .int .i64 0, .string ⟨#[]⟩, .int .i64 0, .int .i64 0] [(0, 1, .int .i64 3), (1, 1, v37)]).bind fun v38 =>
              (binK (.agg [(0, (.int .i64)), (1, (.int .i64)), (2, .string), (3, (.int .i64)), (4, (.int .i64))]) .eql v35 v38).bind fun v39 =>
              some (put (put (put (put (put t34 42 v35) 43 v36) 44 v37) 45 v38) 46 v39, q32.2.1, q32.2.2))
             (some (put (put (put (put (put t34 42 (.tuple #[])) 43 (.tuple #[])) 44 (.tuple #[])) 45 (.tuple #[])) 46 (.tuple #[]), q32.2.1, q32.2.2))
           ).bind fun (q33 : R3) =>
           (pickV (q33.1 41) (q33.1 46) (.bool false)).bind fun v40 =>
           some (v40, q33.2.1, q33.2.2))
          ((binK .plain .eql v12 (.int .i64 4)).bind fun v41 =>
           csel v41
             ((fieldA 2 (ptr (n) 0)).bind fun v42 =>
              (ld false 1 v42 q10.2.1).bind fun v43 =>
              (C 74 [v43] q10.2.1 (q10.2.2 + 21)).bind fun q44 =>
              let t46 : Tm := put (put (put (put (put (put (put (put (put (put (put (put (put (put (put (put (put (put (put (put (put (put (put (put (put (put (put (put t 2 (ptr (n) 0)) 4 (.bool false)) 7 v3) 8 v4) 9 (t 1)) 10 v5) 11 q6.1) 5 q6.1) 12 v7) 13 v8) 14 (t 1)) 15 v9) 16 q10.1) 6 q10.1) 17 v11) 18 v12) 20 v13) 19 v13) 25 v17) 24 v17) 37 v29) 36 v29) 49 v41) 48 v41) 50 v42) 51 v43) 52 q44.1) 53 q44.1
              (gsel q44.1 true
                ((ld true 5 (ptr (n) 0) q44.2.1).bind fun v47 =>
                 (fieldA 2 (ptr (n) 0)).bind fun v48 =>
                 (ld false 1 v48 q44.2.1).bind fun v49 =>
                 (bld [.int .i64 0, .int .i64 0, .string ⟨#[]⟩, .int .i64 0, .int .i64 0] [(0, 1, .int .i64 4), (2, 1, v49)]).bind fun v50 =>
                 (binK (.agg [(0, (.int .i64)), (1, (.int .i64)), (2, .string), (3, (.int .i64)), (4, (.int .i64))]) .eql v47 v50).bind fun v51 =>
                 some (put (put (put (put (put t46 54 v47) 55 v48) 56 v49) 57 v50) 58 v51, q44.2.1, q44.2.2))
                (some (put (put (put (put (put t46 54 (.tuple #[])) 55 (.tuple #[])) 56 (.tuple #[])) 57 (.tuple #[])) 58 (.tuple #[]), q44.2.1, q44.2.2))
              ).bind fun (q45 : R3) =>
              (pickV (q45.1 53) (q45.1 58) (.bool false)).bind fun v52 =>
              some (v52, q45.2.1, q45.2.2))
             ((binK .plain .eql v12 (.int .i64 5)).bind fun v53 =>
              csel v53
                ((pickV q6.1 (gsel q6.1 true q10.1 (.tuple #[])) (.bool false)).bind fun v54 =>
                 let t56 : Tm := put (put (put (put (put (put (put (put (put (put (put (put (put (put (put (put (put (put (put (put (put (put (put (put (put (put (put (put (put (put (put t 2 (ptr (n) 0)) 4 (.bool false)) 7 v3) 8 v4) 9 (t 1)) 10 v5) 11 q6.1) 5 q6.1) 12 v7) 13 v8) 14 (t 1)) 15 v9) 16 q10.1) 6 q10.1) 17 v11) 18 v12) 20 v13) 19 v13) 25 v17) 24 v17) 37 v29) 36 v29) 49 v41) 48 v41) 61 v53) 60 v53) 62 q6.1) 63 q6.1) 64 (gsel q6.1 true q10.1 (.tuple #[]))) 65 v54) 66 v54
                 (gsel v54 true
                   ((fieldA 1 (ptr (n) 0)).bind fun v57 =>
                    (ld false 1 v57 q10.2.1).bind fun v58 =>
                    (binK .plain .eql v58 (.int .i64 0)).bind fun v59 =>
                    some (put (put (put t56 67 v57) 68 v58) 69 v59, q10.2.1, q10.2.2 + 27))
                   (some (put (put (put t56 67 (.tuple #[])) 68 (.tuple #[])) 69 (.tuple #[]), q10.2.1, q10.2.2 + 27))
                 ).bind fun (q55 : R3) =>
                 (pickV (q55.1 66) (q55.1 69) (.bool false)).bind fun v60 =>
                 let t62 : Tm := put (put q55.1 70 v60) 71 v60
                 (gsel v60 true
                   ((fieldA 2 (t62 2)).bind fun v63 =>
                    (ld false 1 v63 q55.2.1).bind fun v64 =>
                    (binK .plain .eql v64 (.string ⟨#[]⟩)).bind fun v65 =>
                    some (put (put (put t62 72 v63) 73 v64) 74 v65, q55.2.1, q55.2.2))
                   (some (put (put (put t62 72 (.tuple #[])) 73 (.tuple #[])) 74 (.tuple #[]), q55.2.1, q55.2.2))
                 ).bind fun (q61 : R3) =>
                 (pickV (q61.1 71) (q61.1 74) (.bool false)).bind fun v66 =>
                 some (v66, q61.2.1, q61.2.2))
                ((binK .plain .eql v12 (.int .i64 6)).bind fun v67 =>
                 csel v67
                   (let t69 : Tm := put (put (put (put (put (put (put (put (put (put (put (put (put (put (put (put (put (put (put (put (put (put (put (put (put (put (put (put (put (put t 2 (ptr (n) 0)) 4 (.bool false)) 7 v3) 8 v4) 9 (t 1)) 10 v5) 11 q6.1) 5 q6.1) 12 v7) 13 v8) 14 (t 1)) 15 v9) 16 q10.1) 6 q10.1) 17 v11) 18 v12) 20 v13) 19 v13) 25 v17) 24 v17) 37 v29) 36 v29) 49 v41) 48 v41) 61 v53) 60 v53) 77 v67) 76 v67) 78 q6.1) 79 q6.1
                    (gsel q6.1 true
                      ((fieldA 1 (ptr (n) 0)).bind fun v70 =>
                       (ld false 1 v70 q10.2.1).bind fun v71 =>
                       (C 75 [v71, .int .i64 0, .int .i64 1000000000] q10.2.1 (q10.2.2 + 31)).bind fun q72 =>
                       some (put (put (put t69 80 v70) 81 v71) 82 q72.1, q72.2.1, q72.2.2))
                      (some (put (put (put t69 80 (.tuple #[])) 81 (.tuple #[])) 82 (.tuple #[]), q10.2.1, q10.2.2 + 31))
                    ).bind fun (q68 : R3) =>
                    (pickV (q68.1 79) (q68.1 82) (.bool false)).bind fun v73 =>
                    let t75 : Tm := put (put q68.1 83 v73) 84 v73
                    (gsel v73 true
                      ((fieldA 4 (t75 2)).bind fun v76 =>
                       (ld false 1 v76 q68.2.1).bind fun v77 =>
                       (binK .plain .eql v77 (.int .i64 0)).bind fun v78 =>
                       some (put (put (put t75 85 v76) 86 v77) 87 v78, q68.2.1, q68.2.2))
                      (some (put (put (put t75 85 (.tuple #[])) 86 (.tuple #[])) 87 (.tuple #[]), q68.2.1, q68.2.2))
                    ).bind fun (q74 : R3) =>
                    (pickV (q74.1 84) (q74.1 87) (.bool false)).bind fun v79 =>
                    let t81 : Tm := put (put q74.1 88 v79) 89 v79
                    (gsel v79 true
                      ((fieldA 2 (t81 2)).bind fun v82 =>
                       (ld false 1 v82 q74.2.1).bind fun v83 =>
                       (binK .plain .eql v83 (.string ⟨#[]⟩)).bind fun v84 =>
                       some (put (put (put t81 90 v82) 91 v83) 92 v84, q74.2.1, q74.2.2))
                      (some (put (put (put t81 90 (.tuple #[])) 91 (.tuple #[])) 92 (.tuple #[]), q74.2.1, q74.2.2))
                    ).bind fun (q80 : R3) =>
                    (pickV (q80.1 89) (q80.1 92) (.bool false)).bind fun v85 =>
                    some (v85, q80.2.1, q80.2.2))
                   ((binK .plain .eql v12 (.int .i64 7)).bind fun v86 =>
                    csel v86
                      (let t88 : Tm := put (put (put (put (put (put (put (put (put (put (put (put (put (put (put (put (put (put (put (put (put (put (put (put (put (put (put (put (put (put (put (put t 2 (ptr (n) 0)) 4 (.bool false)) 7 v3) 8 v4) 9 (t 1)) 10 v5) 11 q6.1) 5 q6.1) 12 v7) 13 v8) 14 (t 1)) 15 v9) 16 q10.1) 6 q10.1) 17 v11) 18 v12) 20 v13) 19 v13) 25 v17) 24 v17) 37 v29) 36 v29) 49 v41) 48 v41) 61 v53) 60 v53) 77 v67) 76 v67) 95 v86) 94 v86) 96 q6.1) 97 q6.1
                       (gsel q6.1 true
                         ((fieldA 1 (ptr (n) 0)).bind fun v89 =>
                          (ld false 1 v89 q10.2.1).bind fun v90 =>
                          (binK .plain .eql v90 (.int .i64 0)).bind fun v91 =>
                          some (put (put (put t88 98 v89) 99 v90) 100 v91, q10.2.1, q10.2.2 + 33))
                         (some (put (put (put t88 98 (.tuple #[])) 99 (.tuple #[])) 100 (.tuple #[]), q10.2.1, q10.2.2 + 33))
                       ).bind fun (q87 : R3) =>
                       (pickV (q87.1 97) (q87.1 100) (.bool false)).bind fun v92 =>
                       let t94 : Tm := put (put q87.1 101 v92) 102 v92
                       (gsel v92 true
                         ((fieldA 4 (t94 2)).bind fun v95 =>
                          (ld false 1 v95 q87.2.1).bind fun v96 =>
                          (binK .plain .eql v96 (.int .i64 0)).bind fun v97 =>
                          some (put (put (put t94 103 v95) 104 v96) 105 v97, q87.2.1, q87.2.2))
                         (some (put (put (put t94 103 (.tuple #[])) 104 (.tuple #[])) 105 (.tuple #[]), q87.2.1, q87.2.2))
                       ).bind fun (q93 : R3) =>
                       (pickV (q93.1 102) (q93.1 105) (.bool false)).bind fun v98 =>
                       let t100 : Tm := put (put q93.1 106 v98) 107 v98
                       (gsel v98 true
                         ((fieldA 2 (t100 2)).bind fun v101 =>
                          (ld false 1 v101 q93.2.1).bind fun v102 =>
                          (binK .plain .eql v102 (.string ⟨#[]⟩)).bind fun v103 =>
                          some (put (put (put t100 108 v101) 109 v102) 110 v103, q93.2.1, q93.2.2))
                         (some (put (put (put t100 108 (.tuple #[])) 109 (.tuple #[])) 110 (.tuple #[]), q93.2.1, q93.2.2))
                       ).bind fun (q99 : R3) =>
                       (pickV (q99.1 107) (q99.1 110) (.bool false)).bind fun v104 =>
                       some (v104, q99.2.1, q99.2.2))
                      ((binK .plain .eql v12 (.int .i64 8)).bind fun v105 =>
                       csel v105
                         ((fieldA 1 (ptr (n) 0)).bind fun v106 =>
                          (ld false 1 v106 q10.2.1).bind fun v107 =>
                          (C 75 [v107, .int .i64 0, .int .i64 99] q10.2.1 (q10.2.2 + 29)).bind fun q108 =>
                          let t110 : Tm := put (put (put (put (put (put (put (put (put (put (put (put (put (put (put (put (put (put (put (put (put (put (put (put (put (put (put (put (put (put (put (put (put (put (put (put t 2 (ptr (n) 0)) 4 (.bool false)) 7 v3) 8 v4) 9 (t 1)) 10 v5) 11 q6.1) 5 q6.1) 12 v7) 13 v8) 14 (t 1)) 15 v9) 16 q10.1) 6 q10.1) 17 v11) 18 v12) 20 v13) 19 v13) 25 v17) 24 v17) 37 v29) 36 v29) 49 v41) 48 v41) 61 v53) 60 v53) 77 v67) 76 v67) 95 v86) 94 v86) 113 v105) 112 v105) 114 v106) 115 v107) 116 q108.1) 117 q108.1
                          (gsel q108.1 true
                            ((ld true 5 (ptr (n) 0) q108.2.1).bind fun v111 =>
                             (fieldA 1 (ptr (n) 0)).bind fun v112 =>
                             (ld false 1 v112 q108.2.1).bind fun v113 =>
                             (bld [.int .i64 0, .int .i64 0, .string ⟨#[]⟩, .int .i64 0, .int .i64 0] [(0, 1, .int .i64 8), (1, 1, v113)]).bind fun v114 =>
                             (binK (.agg [(0, (.int .i64)), (1, (.int .i64)), (2, .string), (3, (.int .i64)), (4, (.int .i64))]) .eql v111 v114).bind fun v115 =>
                             some (put (put (put (put (put t110 118 v111) 119 v112) 120 v113) 121 v114) 122 v115, q108.2.1, q108.2.2))
                            (some (put (put (put (put (put t110 118 (.tuple #[])) 119 (.tuple #[])) 120 (.tuple #[])) 121 (.tuple #[])) 122 (.tuple #[]), q108.2.1, q108.2.2))
                          ).bind fun (q109 : R3) =>
                          (pickV (q109.1 117) (q109.1 122) (.bool false)).bind fun v116 =>
                          some (v116, q109.2.1, q109.2.2))
                         ((binK .plain .eql v12 (.int .i64 9)).bind fun v117 =>
                          csel v117
                            ((fieldA 1 (ptr (n) 0)).bind fun v118 =>
                             (ld false 1 v118 q10.2.1).bind fun v119 =>
                             (C 75 [v119, .int .i64 0, .int .i64 1000000000] q10.2.1 (q10.2.2 + 31)).bind fun q120 =>
                             let t122 : Tm := put (put (put (put (put (put (put (put (put (put (put (put (put (put (put (put (put (put (put (put (put (put (put (put (put (put (put (put (put (put (put (put (put (put (put (put (put (put t 2 (ptr (n) 0)) 4 (.bool false)) 7 v3) 8 v4) 9 (t 1)) 10 v5) 11 q6.1) 5 q6.1) 12 v7) 13 v8) 14 (t 1)) 15 v9) 16 q10.1) 6 q10.1) 17 v11) 18 v12) 20 v13) 19 v13) 25 v17) 24 v17) 37 v29) 36 v29) 49 v41) 48 v41) 61 v53) 60 v53) 77 v67) 76 v67) 95 v86) 94 v86) 113 v105) 112 v105) 125 v117) 124 v117) 126 v118) 127 v119) 128 q120.1) 129 q120.1
                             (gsel q120.1 true
                               ((ld true 5 (ptr (n) 0) q120.2.1).bind fun v123 =>
                                (fieldA 1 (ptr (n) 0)).bind fun v124 =>
                                (ld false 1 v124 q120.2.1).bind fun v125 =>
                                (bld [.int .i64 0, .int .i64 0, .string ⟨#[]⟩, .int .i64 0, .int .i64 0] [(0, 1, .int .i64 9), (1, 1, v125)]).bind fun v126 =>
                                (binK (.agg [(0, (.int .i64)), (1, (.int .i64)), (2, .string), (3, (.int .i64)), (4, (.int .i64))]) .eql v123 v126).bind fun v127 =>
                                some (put (put (put (put (put t122 130 v123) 131 v124) 132 v125) 133 v126) 134 v127, q120.2.1, q120.2.2))
                               (some (put (put (put (put (put t122 130 (.tuple #[])) 131 (.tuple #[])) 132 (.tuple #[])) 133 (.tuple #[])) 134 (.tuple #[]), q120.2.1, q120.2.2))
                             ).bind fun (q121 : R3) =>
                             (pickV (q121.1 129) (q121.1 134) (.bool false)).bind fun v128 =>
                             some (v128, q121.2.1, q121.2.2))
                            (some (.bool false, q10.2.1, q10.2.2 + 21))))))))))
theorem s98 (C : Calling) (L : Body → Body) (t : Tm) (H : Hp) (n : Nat) : bodyK Try.prog C L Try.f98 t H n = S98 C L t H n := by kernel_rfl
theorem c98 (args : List Value) (H : Hp) (n : Nat) : Call Try.prog 98 args H n = S98 (Call Try.prog) Loop (argsT args) H n := (Call_body Try.func98 args H n).trans (s98 ..)
/-! 99: laws.toInstr -/
noncomputable def S99 (C : Calling) (L : Body → Body) (t : Tm) (H : Hp) (n : Nat) : Option (Value × Hp × Nat) :=
  (vcells (t 0)).bind fun c2 =>
  let H1 := H.set (n) (some (.row c2 0 true))
  let H3 := H1.set (n + 1) (some (.row [.int .i64 0, .int .i64 0, .int .i64 0, .string ⟨#[]⟩] 0 true))
  let H4 := H3.set (n + 2) (some (.row [.int .i64 0, .int .i64 0, .int .i64 0, .string ⟨#[]⟩] 0 true))
  (fieldA 0 (ptr (n) 0)).bind fun v5 =>
  (ld false 1 v5 H4).bind fun v6 =>
  (fieldA 0 (ptr (n + 2) 0)).bind fun v7 =>
  (st false 1 v7 v6 H4).bind fun H8 =>
  (fieldA 1 (ptr (n) 0)).bind fun v9 =>
  (ld false 1 v9 H8).bind fun v10 =>
  (fieldA 1 (ptr (n + 2) 0)).bind fun v11 =>
  (st false 1 v11 v10 H8).bind fun H12 =>
  (fieldA 2 (ptr (n) 0)).bind fun v13 =>
  (ld false 1 v13 H12).bind fun v14 =>
  (fieldA 2 (ptr (n + 2) 0)).bind fun v15 =>
  (st false 1 v15 v14 H12).bind fun H16 =>
  (fieldA 3 (ptr (n) 0)).bind fun v17 =>
  (ld false 1 v17 H16).bind fun v18 =>
  (fieldA 3 (ptr (n + 2) 0)).bind fun v19 =>
  (st false 1 v19 v18 H16).bind fun H20 =>
  (ld true 4 (ptr (n + 2) 0) H20).bind fun v21 =>
  (st true 4 (ptr (n + 1) 0) v21 H20).bind fun H22 =>
  (ld true 4 (ptr (n + 1) 0) H22).bind fun v23 =>
  some (v23, H22, n + 21)
theorem s99 (C : Calling) (L : Body → Body) (t : Tm) (H : Hp) (n : Nat) : bodyK Try.prog C L Try.f99 t H n = S99 C L t H n := by kernel_rfl
theorem c99 (args : List Value) (H : Hp) (n : Nat) : Call Try.prog 99 args H n = S99 (Call Try.prog) Loop (argsT args) H n := (Call_body Try.func99 args H n).trans (s99 ..)
/-! 100: laws.toDef -/
noncomputable def S100 (C : Calling) (L : Body → Body) (t : Tm) (H : Hp) (n : Nat) : Option (Value × Hp × Nat) :=
  (vcells (t 0)).bind fun c2 =>
  let H1 := H.set (n) (some (.row c2 0 true))
  let H3 := H1.set (n + 1) (some (.row [.string ⟨#[]⟩, .int .i64 0, .int .i64 0] 0 true))
  let H4 := H3.set (n + 2) (some (.row [.string ⟨#[]⟩, .int .i64 0, .int .i64 0] 0 true))
  (fieldA 0 (ptr (n) 0)).bind fun v5 =>
  (ld false 1 v5 H4).bind fun v6 =>
  (fieldA 0 (ptr (n + 2) 0)).bind fun v7 =>
  (st false 1 v7 v6 H4).bind fun H8 =>
  (fieldA 1 (ptr (n) 0)).bind fun v9 =>
  (ld false 1 v9 H8).bind fun v10 =>
  (fieldA 1 (ptr (n + 2) 0)).bind fun v11 =>
  (st false 1 v11 v10 H8).bind fun H12 =>
  (fieldA 2 (ptr (n) 0)).bind fun v13 =>
  (ld false 1 v13 H12).bind fun v14 =>
  (fieldA 2 (ptr (n + 2) 0)).bind fun v15 =>
  (st false 1 v15 v14 H12).bind fun H16 =>
  (ld true 3 (ptr (n + 2) 0) H16).bind fun v17 =>
  (st true 3 (ptr (n + 1) 0) v17 H16).bind fun H18 =>
  (ld true 3 (ptr (n + 1) 0) H18).bind fun v19 =>
  some (v19, H18, n + 17)
theorem s100 (C : Calling) (L : Body → Body) (t : Tm) (H : Hp) (n : Nat) : bodyK Try.prog C L Try.f100 t H n = S100 C L t H n := by kernel_rfl
theorem c100 (args : List Value) (H : Hp) (n : Nat) : Call Try.prog 100 args H n = S100 (Call Try.prog) Loop (argsT args) H n := (Call_body Try.func100 args H n).trans (s100 ..)
/-! 101: laws.toNode -/
noncomputable def S101 (C : Calling) (L : Body → Body) (t : Tm) (H : Hp) (n : Nat) : Option (Value × Hp × Nat) :=
  (vcells (t 0)).bind fun c2 =>
  let H1 := H.set (n) (some (.row c2 0 true))
  let H3 := H1.set (n + 1) (some (.row [.int .i64 0, .int .i64 0, .string ⟨#[]⟩, .int .i64 0, .int .i64 0] 0 true))
  let H4 := H3.set (n + 2) (some (.row [.int .i64 0, .int .i64 0, .string ⟨#[]⟩, .int .i64 0, .int .i64 0] 0 true))
  (fieldA 0 (ptr (n) 0)).bind fun v5 =>
  (ld false 1 v5 H4).bind fun v6 =>
  (fieldA 0 (ptr (n + 2) 0)).bind fun v7 =>
  (st false 1 v7 v6 H4).bind fun H8 =>
  (fieldA 1 (ptr (n) 0)).bind fun v9 =>
  (ld false 1 v9 H8).bind fun v10 =>
  (fieldA 1 (ptr (n + 2) 0)).bind fun v11 =>
  (st false 1 v11 v10 H8).bind fun H12 =>
  (fieldA 2 (ptr (n) 0)).bind fun v13 =>
  (ld false 1 v13 H12).bind fun v14 =>
  (fieldA 2 (ptr (n + 2) 0)).bind fun v15 =>
  (st false 1 v15 v14 H12).bind fun H16 =>
  (fieldA 3 (ptr (n) 0)).bind fun v17 =>
  (ld false 1 v17 H16).bind fun v18 =>
  (fieldA 3 (ptr (n + 2) 0)).bind fun v19 =>
  (st false 1 v19 v18 H16).bind fun H20 =>
  (fieldA 4 (ptr (n) 0)).bind fun v21 =>
  (ld false 1 v21 H20).bind fun v22 =>
  (fieldA 4 (ptr (n + 2) 0)).bind fun v23 =>
  (st false 1 v23 v22 H20).bind fun H24 =>
  (ld true 5 (ptr (n + 2) 0) H24).bind fun v25 =>
  (st true 5 (ptr (n + 1) 0) v25 H24).bind fun H26 =>
  (ld true 5 (ptr (n + 1) 0) H26).bind fun v27 =>
  some (v27, H26, n + 25)
theorem s101 (C : Calling) (L : Body → Body) (t : Tm) (H : Hp) (n : Nat) : bodyK Try.prog C L Try.f101 t H n = S101 C L t H n := by kernel_rfl
theorem c101 (args : List Value) (H : Hp) (n : Nat) : Call Try.prog 101 args H n = S101 (Call Try.prog) Loop (argsT args) H n := (Call_body Try.func101 args H n).trans (s101 ..)
/-! 102: impl.nodeOk -/
noncomputable def S102 (C : Calling) (L : Body → Body) (t : Tm) (H : Hp) (n : Nat) : Option (Value × Hp × Nat) :=
  (vcells (t 0)).bind fun c2 =>
  let H1 := H.set (n) (some (.row c2 0 true))
  (fieldA 2 (ptr (n) 0)).bind fun v3 =>
  (ld false 1 v3 H1).bind fun v4 =>
  (binK .plain .eql v4 (.string ⟨#[]⟩)).bind fun v5 =>
  (fieldA 3 (ptr (n) 0)).bind fun v6 =>
  (ld false 1 v6 H1).bind fun v7 =>
  (binK .plain .eql v7 (.int .i64 0)).bind fun v8 =>
  (fieldA 4 (ptr (n) 0)).bind fun v9 =>
  (ld false 1 v9 H1).bind fun v10 =>
  (binK .plain .eql v10 (.int .i64 0)).bind fun v11 =>
  (fieldA 0 (ptr (n) 0)).bind fun v12 =>
  (ld false 1 v12 H1).bind fun v13 =>
  (binK .plain .eql v13 (.int .i64 1)).bind fun v14 =>
  let t16 : Tm := put (put (put (put (put (put (put (put (put (put (put (put (put (put (put (put (put (put (put (put t 2 (ptr (n) 0)) 4 (.bool false)) 10 v3) 11 v4) 12 v5) 5 (.int .i64 0)) 6 (.int .i64 0)) 7 v5) 13 v6) 14 v7) 15 v8) 16 v9) 17 v10) 18 v11) 8 v8) 9 v11) 19 v12) 20 v13) 22 v14) 21 v14
  (csel v14
    (some ⟨.normal, t16, H1, n + 20⟩)
    ((binK .plain .eql v13 (.int .i64 2)).bind fun v17 =>
     let t19 : Tm := put (put t16 24 v17) 23 v17
     (csel v17
       (some ⟨.normal, put t19 6 (.int .i64 1), H1, n + 23⟩)
       ((binK .plain .eql v13 (.int .i64 3)).bind fun v20 =>
        let t22 : Tm := put (put t19 26 v20) 25 v20
        (csel v20
          (some ⟨.normal, put (put t22 5 (.int .i64 (-1000000000))) 6 (.int .i64 1000000000), H1, n + 26⟩)
          ((binK .plain .eql v13 (.int .i64 4)).bind fun v23 =>
           let t25 : Tm := put (put t22 28 v23) 27 v23
           (csel v23
             ((fieldA 2 (ptr (n) 0)).bind fun v26 =>
              (ld false 1 v26 H1).bind fun v27 =>
              (C 69 [v27] H1 (n + 30)).bind fun q28 =>
              some ⟨.normal, put (put (put (put t25 29 v26) 30 v27) 31 q28.1) 7 q28.1, q28.2.1, q28.2.2⟩)
             ((binK .plain .eql v13 (.int .i64 5)).bind fun v29 =>
              let t31 : Tm := put (put t25 33 v29) 32 v29
              (csel v29
                ((fieldA 3 (ptr (n) 0)).bind fun v32 =>
                 (ld false 1 v32 H1).bind fun v33 =>
                 (binK .plain .sub (t31 1) (.int .i64 1)).bind fun v34 =>
                 (C 70 [v33, .int .i64 0, v34] H1 (n + 40)).bind fun q35 =>
                 (fieldA 4 (ptr (n) 0)).bind fun v36 =>
                 (ld false 1 v36 q35.2.1).bind fun v37 =>
                 ask (ld false 1 v36 H1 = some v37) <|
                 (binK .plain .sub (t31 1) (.int .i64 1)).bind fun v38 =>
                 (C 70 [v37, .int .i64 0, v38] q35.2.1 (q35.2.2)).bind fun q39 =>
                 some ⟨.normal, put (put (put (put (put (put (put (put (put (put (put (put t31 34 v32) 35 v33) 36 (t31 1)) 37 v34) 38 q35.1) 39 v36) 40 v37) 41 (t31 1)) 42 v38) 43 q39.1) 8 q35.1) 9 q39.1, q39.2.1, q39.2.2⟩)
                ((binK .plain .eql v13 (.int .i64 6)).bind fun v40 =>
                 let t42 : Tm := put (put t31 45 v40) 44 v40
                 (csel v40
                   ((fieldA 3 (ptr (n) 0)).bind fun v43 =>
                    (ld false 1 v43 H1).bind fun v44 =>
                    (binK .plain .sub (t42 1) (.int .i64 1)).bind fun v45 =>
                    (C 70 [v44, .int .i64 0, v45] H1 (n + 37)).bind fun q46 =>
                    some ⟨.normal, put (put (put (put (put (put (put t42 46 v43) 47 v44) 48 (t42 1)) 49 v45) 50 q46.1) 6 (.int .i64 1000000000)) 8 q46.1, q46.2.1, q46.2.2⟩)
                   ((binK .plain .eql v13 (.int .i64 7)).bind fun v47 =>
                    let t49 : Tm := put (put t42 52 v47) 51 v47
                    (csel v47
                      ((fieldA 3 (ptr (n) 0)).bind fun v50 =>
                       (ld false 1 v50 H1).bind fun v51 =>
                       (binK .plain .sub (t49 1) (.int .i64 1)).bind fun v52 =>
                       (C 70 [v51, .int .i64 0, v52] H1 (n + 38)).bind fun q53 =>
                       some ⟨.normal, put (put (put (put (put (put t49 53 v50) 54 v51) 55 (t49 1)) 56 v52) 57 q53.1) 8 q53.1, q53.2.1, q53.2.2⟩)
                      ((binK .plain .eql v13 (.int .i64 8)).bind fun v54 =>
                       let t56 : Tm := put (put t49 59 v54) 58 v54
                       (csel v54
                         (some ⟨.normal, put t56 6 (.int .i64 99), H1, n + 35⟩)
                         ((binK .plain .eql v13 (.int .i64 9)).bind fun v57 =>
                          csel v57
                            (some ⟨.normal, put (put (put t56 61 v57) 60 v57) 6 (.int .i64 1000000000), H1, n + 37⟩)
                            (some ⟨.ret, put (put (put t56 61 v57) 60 v57) 4 (.bool false), H1, n + 37⟩))
                       ).bind fun (o55 : Out) =>
                       some o55)
                    ).bind fun (o48 : Out) =>
                    some o48)
                 ).bind fun (o41 : Out) =>
                 some o41)
              ).bind fun (o30 : Out) =>
              some o30)
           ).bind fun (o24 : Out) =>
           some o24)
        ).bind fun (o21 : Out) =>
        some o21)
     ).bind fun (o18 : Out) =>
     some o18)
  ).bind fun (o15 : Out) =>
  let o58 := outOf 0 o15
  thenK o58
    ((fieldA 1 (o58.t 2)).bind fun v59 =>
     (ld false 1 v59 o58.H).bind fun v60 =>
     (C 70 [v60, o58.t 5, o58.t 6] o58.H (o58.n + 15)).bind fun q61 =>
     (pickV q61.1 (gsel q61.1 true (o58.t 7) (.tuple #[])) (.bool false)).bind fun v62 =>
     (pickV v62 (gsel v62 true (o58.t 8) (.tuple #[])) (.bool false)).bind fun v63 =>
     (pickV v63 (gsel v63 true (o58.t 9) (.tuple #[])) (.bool false)).bind fun v64 =>
     some (v64, q61.2.1, q61.2.2))
    (finE o58.e
       (some (o58.t 4, o58.H, o58.n)))
theorem s102 (C : Calling) (L : Body → Body) (t : Tm) (H : Hp) (n : Nat) : bodyK Try.prog C L Try.f102 t H n = S102 C L t H n := by kernel_rfl
theorem c102 (args : List Value) (H : Hp) (n : Nat) : Call Try.prog 102 args H n = S102 (Call Try.prog) Loop (argsT args) H n := (Call_body Try.func102 args H n).trans (s102 ..)
/-! 103: impl.Node] -/
noncomputable def S103 (C : Calling) (L : Body → Body) (t : Tm) (H : Hp) (n : Nat) : Option (Value × Hp × Nat) :=
  (binK .slice .eql (t 0) nilS).bind fun v1 =>
  csel v1
    (some (nilS, H, n + 4))
    ((bsl (n + 3) 5 0 [.int .i64 0, .int .i64 0, .string ⟨#[]⟩, .int .i64 0, .int .i64 0] [] H).bind fun p2 =>
     (app (n + 5) 5 48 p2.1 (t 0) p2.2).bind fun p3 =>
     some (p3.1, p3.2, n + 7))
theorem s103 (C : Calling) (L : Body → Body) (t : Tm) (H : Hp) (n : Nat) : bodyK Try.prog C L Try.f103 t H n = S103 C L t H n := by kernel_rfl
theorem c103 (args : List Value) (H : Hp) (n : Nat) : Call Try.prog 103 args H n = S103 (Call Try.prog) Loop (argsT args) H n := (Call_body Try.func103 args H n).trans (s103 ..)
/-! 104: laws.eqInstr -/
noncomputable def S104 (C : Calling) (L : Body → Body) (t : Tm) (H : Hp) (n : Nat) : Option (Value × Hp × Nat) :=
  (vcells (t 0)).bind fun c2 =>
  let H1 := H.set (n) (some (.row c2 0 true))
  (vcells (t 1)).bind fun c4 =>
  let H3 := H1.set (n + 1) (some (.row c4 0 true))
  (fieldA 0 (ptr (n) 0)).bind fun v5 =>
  (ld false 1 v5 H3).bind fun v6 =>
  (fieldA 0 (ptr (n + 1) 0)).bind fun v7 =>
  (ld false 1 v7 H3).bind fun v8 =>
  (binK .plain .neq v6 v8).bind fun v9 =>
  csel v9
    (some (.bool false, H3, n + 9))
    ((fieldA 1 (ptr (n) 0)).bind fun v10 =>
     (ld false 1 v10 H3).bind fun v11 =>
     (fieldA 1 (ptr (n + 1) 0)).bind fun v12 =>
     (ld false 1 v12 H3).bind fun v13 =>
     (binK .plain .neq v11 v13).bind fun v14 =>
     csel v14
       (some (.bool false, H3, n + 14))
       ((fieldA 2 (ptr (n) 0)).bind fun v15 =>
        (ld false 1 v15 H3).bind fun v16 =>
        (fieldA 2 (ptr (n + 1) 0)).bind fun v17 =>
        (ld false 1 v17 H3).bind fun v18 =>
        (binK .plain .neq v16 v18).bind fun v19 =>
        csel v19
          (some (.bool false, H3, n + 19))
          ((fieldA 3 (ptr (n) 0)).bind fun v20 =>
           (ld false 1 v20 H3).bind fun v21 =>
           (fieldA 3 (ptr (n + 1) 0)).bind fun v22 =>
           (ld false 1 v22 H3).bind fun v23 =>
           (binK .plain .neq v21 v23).bind fun v24 =>
           csel v24
             (some (.bool false, H3, n + 24))
             (some (.bool true, H3, n + 24)))))
theorem s104 (C : Calling) (L : Body → Body) (t : Tm) (H : Hp) (n : Nat) : bodyK Try.prog C L Try.f104 t H n = S104 C L t H n := by kernel_rfl
theorem c104 (args : List Value) (H : Hp) (n : Nat) : Call Try.prog 104 args H n = S104 (Call Try.prog) Loop (argsT args) H n := (Call_body Try.func104 args H n).trans (s104 ..)
/-! 105: laws.eqDef -/
noncomputable def S105 (C : Calling) (L : Body → Body) (t : Tm) (H : Hp) (n : Nat) : Option (Value × Hp × Nat) :=
  (vcells (t 0)).bind fun c2 =>
  let H1 := H.set (n) (some (.row c2 0 true))
  (vcells (t 1)).bind fun c4 =>
  let H3 := H1.set (n + 1) (some (.row c4 0 true))
  (fieldA 0 (ptr (n) 0)).bind fun v5 =>
  (ld false 1 v5 H3).bind fun v6 =>
  (fieldA 0 (ptr (n + 1) 0)).bind fun v7 =>
  (ld false 1 v7 H3).bind fun v8 =>
  (binK .plain .neq v6 v8).bind fun v9 =>
  csel v9
    (some (.bool false, H3, n + 9))
    ((fieldA 1 (ptr (n) 0)).bind fun v10 =>
     (ld false 1 v10 H3).bind fun v11 =>
     (fieldA 1 (ptr (n + 1) 0)).bind fun v12 =>
     (ld false 1 v12 H3).bind fun v13 =>
     (binK .plain .neq v11 v13).bind fun v14 =>
     csel v14
       (some (.bool false, H3, n + 14))
       ((fieldA 2 (ptr (n) 0)).bind fun v15 =>
        (ld false 1 v15 H3).bind fun v16 =>
        (fieldA 2 (ptr (n + 1) 0)).bind fun v17 =>
        (ld false 1 v17 H3).bind fun v18 =>
        (binK .plain .neq v16 v18).bind fun v19 =>
        csel v19
          (some (.bool false, H3, n + 19))
          (some (.bool true, H3, n + 19))))
theorem s105 (C : Calling) (L : Body → Body) (t : Tm) (H : Hp) (n : Nat) : bodyK Try.prog C L Try.f105 t H n = S105 C L t H n := by kernel_rfl
theorem c105 (args : List Value) (H : Hp) (n : Nat) : Call Try.prog 105 args H n = S105 (Call Try.prog) Loop (argsT args) H n := (Call_body Try.func105 args H n).trans (s105 ..)
end Go.Proofs.Ytjbfdaemgpmgjaa.Ax
