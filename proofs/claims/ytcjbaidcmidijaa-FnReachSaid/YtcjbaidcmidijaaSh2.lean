/- What the bodies of some functions of the program come to in the abstract machine. -/
import Derived.Test.YtcjbaidcmidijaaProg
import Derived.Test.YtcjbaidcmidijaaAx3
set_option linter.unusedVariables false
namespace Go.Proofs.Ytcjbaidcmidijaa.Ax
open Go
set_option maxRecDepth 100000
/-! 63: impl.writing).full -/
noncomputable def S63 (C : Calling) (L : Body → Body) (t : Tm) (H : Hp) (n : Nat) : Option (Value × Hp × Nat) :=
  (nilchk (t 0)).bind fun v1 =>
  (fieldA 1 v1).bind fun v2 =>
  (ld false 1 v2 H).bind fun v3 =>
  (lenV false v3).bind fun v4 =>
  (binK .plain .gtr v4 (.int .i64 400)).bind fun v5 =>
  some (v5, H, n + 8)
theorem s63 (C : Calling) (L : Body → Body) (t : Tm) (H : Hp) (n : Nat) : bodyK Try.prog C L Try.f63 t H n = S63 C L t H n := by kernel_rfl
theorem c63 (args : List Value) (H : Hp) (n : Nat) : Call Try.prog 63 args H n = S63 (Call Try.prog) Loop (argsT args) H n := (Call_body Try.func63 args H n).trans (s63 ..)
/-! 64: spec.l2List -/
noncomputable def S64L0 (C : Calling) (L : Body → Body) : Body := fun t H n =>
  (binK .plain .geq (t 6) (.int .i64 0)).bind fun v6 =>
  csel v6
    ((idxA 1 (t 1) (t 6)).bind fun v7 =>
     (ld false 1 v7 H).bind fun v8 =>
     (bld [.int .i64 0, .int .i64 0, .string ⟨#[]⟩, .int .i64 0, .int .i64 0] [(0, 1, .int .i64 5), (3, 1, v8), (4, 1, t 5)]).bind fun v9 =>
     (C 87 [t 0, v9] H (n + 11)).bind fun q10 =>
     (binK .plain .sub (t 6) (.int .i64 1)).bind fun v11 =>
     some ⟨.normal, put (put (put (put (put (put (put (put (put (put (put (put (put (put t 13 (t 6)) 14 v6) 17 (t 0)) 18 (t 1)) 19 (t 6)) 20 v7) 21 v8) 22 (t 5)) 23 v9) 24 q10.1) 5 q10.1) 15 (t 6)) 16 v11) 6 v11, q10.2.1, q10.2.2 + 3⟩)
    (some ⟨(.exit 0), put (put t 13 (t 6)) 14 v6, H, n + 2⟩)
noncomputable def S64 (C : Calling) (L : Body → Body) (t : Tm) (H : Hp) (n : Nat) : Option (Value × Hp × Nat) :=
  (bld [.int .i64 0, .int .i64 0, .string ⟨#[]⟩, .int .i64 0, .int .i64 0] [(0, 1, .int .i64 1)]).bind fun v1 =>
  (C 87 [t 0, v1] H (n + 5)).bind fun q2 =>
  (lenV false (t 1)).bind fun v3 =>
  (binK .plain .sub v3 (.int .i64 1)).bind fun v4 =>
  (L (S64L0 C L) (put (put (put (put (put (put (put (put (put t 4 (.int .i64 0)) 7 (t 0)) 8 v1) 9 q2.1) 5 q2.1) 10 (t 1)) 11 v3) 12 v4) 6 v4) q2.2.1 (q2.2.2 + 4)).bind fun (o5 : Out) =>
  some (o5.t 5, o5.H, o5.n + 2)
theorem s64 (C : Calling) (L : Body → Body) (t : Tm) (H : Hp) (n : Nat) : bodyK Try.prog C L Try.f64 t H n = S64 C L t H n := by kernel_rfl
theorem c64 (args : List Value) (H : Hp) (n : Nat) : Call Try.prog 64 args H n = S64 (Call Try.prog) Loop (argsT args) H n := (Call_body Try.func64 args H n).trans (s64 ..)
/-! 65: slices.ContainsFunc[[]int,int] -/
noncomputable def S65 (C : Calling) (L : Body → Body) (t : Tm) (H : Hp) (n : Nat) : Option (Value × Hp × Nat) :=
  (C 88 [t 0, t 1] H (n + 6)).bind fun q1 =>
  (binK .plain .geq q1.1 (.int .i64 0)).bind fun v2 =>
  some (v2, q1.2.1, q1.2.2)
theorem s65 (C : Calling) (L : Body → Body) (t : Tm) (H : Hp) (n : Nat) : bodyK Try.prog C L Try.f65 t H n = S65 C L t H n := by kernel_rfl
theorem c65 (args : List Value) (H : Hp) (n : Nat) : Call Try.prog 65 args H n = S65 (Call Try.prog) Loop (argsT args) H n := (Call_body Try.func65 args H n).trans (s65 ..)
/-! 66: impl.MakeList$1 -/
noncomputable def S66 (C : Calling) (L : Body → Body) (t : Tm) (H : Hp) (n : Nat) : Option (Value × Hp × Nat) :=
  (ld true 1 (t 1) H).bind fun v1 =>
  (C 53 [v1, t 0] H (n + 6)).bind fun q2 =>
  (un .not q2.1).bind fun v3 =>
  some (v3, q2.2.1, q2.2.2)
theorem s66 (C : Calling) (L : Body → Body) (t : Tm) (H : Hp) (n : Nat) : bodyK Try.prog C L Try.f66 t H n = S66 C L t H n := by kernel_rfl
theorem c66 (args : List Value) (H : Hp) (n : Nat) : Call Try.prog 66 args H n = S66 (Call Try.prog) Loop (argsT args) H n := (Call_body Try.func66 args H n).trans (s66 ..)
/-! 67: impl.Pool).list -/
noncomputable def S67L0 (C : Calling) (L : Body → Body) : Body := fun t H n =>
  (binK .plain .geq (t 6) (.int .i64 0)).bind fun v6 =>
  csel v6
    ((idxA 1 (t 1) (t 6)).bind fun v7 =>
     (ld false 1 v7 H).bind fun v8 =>
     (C 89 [t 0, v8, t 5] H (n + 10)).bind fun q9 =>
     (binK .plain .sub (t 6) (.int .i64 1)).bind fun v10 =>
     some ⟨.normal, put (put (put (put (put (put (put (put (put (put (put (put (put t 13 (t 6)) 14 v6) 17 (t 0)) 18 (t 1)) 19 (t 6)) 20 v7) 21 v8) 22 (t 5)) 23 q9.1) 5 q9.1) 15 (t 6)) 16 v10) 6 v10, q9.2.1, q9.2.2 + 3⟩)
    (some ⟨(.exit 0), put (put t 13 (t 6)) 14 v6, H, n + 2⟩)
noncomputable def S67 (C : Calling) (L : Body → Body) (t : Tm) (H : Hp) (n : Nat) : Option (Value × Hp × Nat) :=
  (bld [.int .i64 0, .int .i64 0, .string ⟨#[]⟩, .int .i64 0, .int .i64 0] [(0, 1, .int .i64 1)]).bind fun v1 =>
  (C 42 [t 0, v1] H (n + 5)).bind fun q2 =>
  (lenV false (t 1)).bind fun v3 =>
  (binK .plain .sub v3 (.int .i64 1)).bind fun v4 =>
  (L (S67L0 C L) (put (put (put (put (put (put (put (put (put t 4 (.int .i64 0)) 7 (t 0)) 8 v1) 9 q2.1) 5 q2.1) 10 (t 1)) 11 v3) 12 v4) 6 v4) q2.2.1 (q2.2.2 + 4)).bind fun (o5 : Out) =>
  some (o5.t 5, o5.H, o5.n + 2)
theorem s67 (C : Calling) (L : Body → Body) (t : Tm) (H : Hp) (n : Nat) : bodyK Try.prog C L Try.f67 t H n = S67 C L t H n := by kernel_rfl
theorem c67 (args : List Value) (H : Hp) (n : Nat) : Call Try.prog 67 args H n = S67 (Call Try.prog) Loop (argsT args) H n := (Call_body Try.func67 args H n).trans (s67 ..)
/-! 68: spec.l1In -/
noncomputable def S68 (C : Calling) (L : Body → Body) (t : Tm) (H : Hp) (n : Nat) : Option (Value × Hp × Nat) :=
  (binK .plain .geq (t 0) (t 1)).bind fun v1 =>
  let t3 : Tm := put (put (put (put (put t 6 (.bool false)) 7 (t 0)) 8 (t 1)) 9 v1) 10 v1
  (gsel v1 true
    ((binK .plain .leq (t3 0) (t3 2)).bind fun v4 =>
     some (put (put (put t3 11 (t3 0)) 12 (t3 2)) 13 v4, H, n + 10))
    (some (put (put (put t3 11 (.tuple #[])) 12 (.tuple #[])) 13 (.tuple #[]), H, n + 10))
  ).bind fun (q2 : R3) =>
  (pickV (q2.1 10) (q2.1 13) (.bool false)).bind fun v5 =>
  some (v5, q2.2.1, q2.2.2)
theorem s68 (C : Calling) (L : Body → Body) (t : Tm) (H : Hp) (n : Nat) : bodyK Try.prog C L Try.f68 t H n = S68 C L t H n := by kernel_rfl
theorem c68 (args : List Value) (H : Hp) (n : Nat) : Call Try.prog 68 args H n = S68 (Call Try.prog) Loop (argsT args) H n := (Call_body Try.func68 args H n).trans (s68 ..)
/-! 69: spec.NameOk -/
noncomputable def S69L0 (C : Calling) (L : Body → Body) : Body := fun t H n =>
  (lenV true (t 0)).bind fun v2 =>
  (binK .plain .lss (t 3) v2).bind fun v3 =>
  csel v3
    ((idxS (t 0) (t 3)).bind fun v4 =>
     (C 90 [v4] H (n + 9)).bind fun q5 =>
     (un .not q5.1).bind fun v6 =>
     csel v6
       (some ⟨.ret, put (put (put (put (put (put (put (put (put (put t 4 (t 3)) 5 (t 0)) 6 v2) 7 v3) 10 (t 0)) 11 (t 3)) 12 v4) 13 q5.1) 14 v6) 2 (.bool false), q5.2.1, q5.2.2 + 1⟩)
       ((binK .plain .add (t 3) (.int .i64 1)).bind fun v7 =>
        some ⟨.normal, put (put (put (put (put (put (put (put (put (put (put (put t 4 (t 3)) 5 (t 0)) 6 v2) 7 v3) 10 (t 0)) 11 (t 3)) 12 v4) 13 q5.1) 14 v6) 8 (t 3)) 9 v7) 3 v7, q5.2.1, q5.2.2 + 3⟩))
    (some ⟨(.exit 0), put (put (put (put t 4 (t 3)) 5 (t 0)) 6 v2) 7 v3, H, n + 4⟩)
noncomputable def S69 (C : Calling) (L : Body → Body) (t : Tm) (H : Hp) (n : Nat) : Option (Value × Hp × Nat) :=
  (L (S69L0 C L) (put (put t 2 (.bool false)) 3 (.int .i64 0)) H (n + 2)).bind fun (o1 : Out) =>
  let o8 := outOf 0 o1
  thenK o8
    ((lenV true (o8.t 0)).bind fun v9 =>
     (C 68 [v9, .int .i64 1, .int .i64 12] o8.H (o8.n + 4)).bind fun q10 =>
     some (q10.1, q10.2.1, q10.2.2))
    (finE o8.e
       (some (o8.t 2, o8.H, o8.n)))
theorem s69 (C : Calling) (L : Body → Body) (t : Tm) (H : Hp) (n : Nat) : bodyK Try.prog C L Try.f69 t H n = S69 C L t H n := by kernel_rfl
theorem c69 (args : List Value) (H : Hp) (n : Nat) : Call Try.prog 69 args H n = S69 (Call Try.prog) Loop (argsT args) H n := (Call_body Try.func69 args H n).trans (s69 ..)
/-! 70: impl.Node] -/
noncomputable def S70 (C : Calling) (L : Body → Body) (t : Tm) (H : Hp) (n : Nat) : Option (Value × Hp × Nat) :=
  (binK .slice .eql (t 0) nilS).bind fun v1 =>
  csel v1
    (some (nilS, H, n + 4))
    ((bsl (n + 3) 5 0 [.int .i64 0, .int .i64 0, .string ⟨#[]⟩, .int .i64 0, .int .i64 0] [] H).bind fun p2 =>
     (app (n + 5) 5 48 p2.1 (t 0) p2.2).bind fun p3 =>
     some (p3.1, p3.2, n + 7))
theorem s70 (C : Calling) (L : Body → Body) (t : Tm) (H : Hp) (n : Nat) : bodyK Try.prog C L Try.f70 t H n = S70 C L t H n := by kernel_rfl
theorem c70 (args : List Value) (H : Hp) (n : Nat) : Call Try.prog 70 args H n = S70 (Call Try.prog) Loop (argsT args) H n := (Call_body Try.func70 args H n).trans (s70 ..)
/-! 71: laws.eqNode -/
noncomputable def S71 (C : Calling) (L : Body → Body) (t : Tm) (H : Hp) (n : Nat) : Option (Value × Hp × Nat) :=
  (vcells (t 0)).bind fun c2 =>
  let H1 := H.set (n) (some (.row c2 0 true))
  (vcells (t 1)).bind fun c4 =>
  let H3 := H1.set (n + 1) (some (.row c4 0 true))
  (fieldA 0 (ptr (n) 0)).bind fun v5 =>
  (ld false 1 v5 H3).bind fun v6 =>
  (fieldA 0 (ptr (n + 1) 0)).bind fun v7 =>
  (ld false 1 v7 H3).bind fun v8 =>
  (binK .plain .neq v6 v8).bind fun v9 =>
  csel v9
    (some (.bool false, H3, n + 9))
    ((fieldA 1 (ptr (n) 0)).bind fun v10 =>
     (ld false 1 v10 H3).bind fun v11 =>
     (fieldA 1 (ptr (n + 1) 0)).bind fun v12 =>
     (ld false 1 v12 H3).bind fun v13 =>
     (binK .plain .neq v11 v13).bind fun v14 =>
     csel v14
       (some (.bool false, H3, n + 14))
       ((fieldA 2 (ptr (n) 0)).bind fun v15 =>
        (ld false 1 v15 H3).bind fun v16 =>
        (fieldA 2 (ptr (n + 1) 0)).bind fun v17 =>
        (ld false 1 v17 H3).bind fun v18 =>
        (binK .plain .neq v16 v18).bind fun v19 =>
        csel v19
          (some (.bool false, H3, n + 19))
          ((fieldA 3 (ptr (n) 0)).bind fun v20 =>
           (ld false 1 v20 H3).bind fun v21 =>
           (fieldA 3 (ptr (n + 1) 0)).bind fun v22 =>
           (ld false 1 v22 H3).bind fun v23 =>
           (binK .plain .neq v21 v23).bind fun v24 =>
           csel v24
             (some (.bool false, H3, n + 24))
             ((fieldA 4 (ptr (n) 0)).bind fun v25 =>
              (ld false 1 v25 H3).bind fun v26 =>
              (fieldA 4 (ptr (n + 1) 0)).bind fun v27 =>
              (ld false 1 v27 H3).bind fun v28 =>
              (binK .plain .neq v26 v28).bind fun v29 =>
              csel v29
                (some (.bool false, H3, n + 29))
                (some (.bool true, H3, n + 29))))))
theorem s71 (C : Calling) (L : Body → Body) (t : Tm) (H : Hp) (n : Nat) : bodyK Try.prog C L Try.f71 t H n = S71 C L t H n := by kernel_rfl
theorem c71 (args : List Value) (H : Hp) (n : Nat) : Call Try.prog 71 args H n = S71 (Call Try.prog) Loop (argsT args) H n := (Call_body Try.func71 args H n).trans (s71 ..)
/-! 72: laws.markText -/
noncomputable def S72L0 (C : Calling) (L : Body → Body) : Body := fun t H n =>
  (binK .plain .gtr (t 0) (.int .i64 0)).bind fun v3 =>
  csel v3
    ((binK .plain .rem (t 0) (.int .i64 10)).bind fun v4 =>
     (binK .plain .add (.int .i64 48) v4).bind fun v5 =>
     (conv (.toInt .u8) (n + 5) v5 H).bind fun p6 =>
     (bsl (n + 6) 1 1 [.int .u8 0] [(0, 1, p6.1)] p6.2).bind fun p7 =>
     (conv .bytesToStr (n + 7) p7.1 p7.2).bind fun p8 =>
     (binK .plain .add p8.1 (t 3)).bind fun v9 =>
     (binK .plain .quo (t 0) (.int .i64 10)).bind fun v10 =>
     some ⟨.normal, put (put (put (put (put (put (put (put (put (put (put (put (put (put t 6 (t 0)) 7 v3) 8 (t 0)) 9 v4) 10 v5) 11 p6.1) 12 p7.1) 13 p8.1) 14 (t 3)) 15 v9) 3 v9) 16 (t 0)) 17 v10) 0 v10, p8.2, n + 14⟩)
    (some ⟨(.exit 0), put (put t 6 (t 0)) 7 v3, H, n + 2⟩)
noncomputable def S72 (C : Calling) (L : Body → Body) (t : Tm) (H : Hp) (n : Nat) : Option (Value × Hp × Nat) :=
  (binK .plain .leq (t 0) (.int .i64 0)).bind fun v1 =>
  csel v1
    (some (.string ⟨#[109, 48]⟩, H, n + 4))
    ((L (S72L0 C L) (put (put (put (put t 2 (.string ⟨#[]⟩)) 4 (t 0)) 5 v1) 3 (.string ⟨#[]⟩)) H (n + 4)).bind fun (o2 : Out) =>
     (binK .plain .add (.string ⟨#[109]⟩) (o2.t 3)).bind fun v11 =>
     some (v11, o2.H, o2.n + 3))
theorem s72 (C : Calling) (L : Body → Body) (t : Tm) (H : Hp) (n : Nat) : bodyK Try.prog C L Try.f72 t H n = S72 C L t H n := by kernel_rfl
theorem c72 (args : List Value) (H : Hp) (n : Nat) : Call Try.prog 72 args H n = S72 (Call Try.prog) Loop (argsT args) H n := (Call_body Try.func72 args H n).trans (s72 ..)
/-! 73: spec.l2DrawRight -/
noncomputable def S73L0 (C : Calling) (L : Body → Body) : Body := fun t H n =>
  (binK .plain .lss (t 5) (t 4)).bind fun v7 =>
  csel v7
    ((C 49 [t 0, t 5] H (n + 7)).bind fun q8 =>
     (C 87 [t 3, q8.1] q8.2.1 (q8.2.2)).bind fun q9 =>
     (binK .plain .add (t 5) (.int .i64 1)).bind fun v10 =>
     some ⟨.normal, put (put (put (put (put (put (put (put (put (put t 9 (t 5)) 10 (t 4)) 11 v7) 14 (t 0)) 15 (t 5)) 16 q8.1) 17 q9.1) 12 (t 5)) 13 v10) 5 v10, q9.2.1, q9.2.2 + 3⟩)
    (some ⟨(.exit 0), put (put (put t 9 (t 5)) 10 (t 4)) 11 v7, H, n + 3⟩)
noncomputable def S73 (C : Calling) (L : Body → Body) (t : Tm) (H : Hp) (n : Nat) : Option (Value × Hp × Nat) :=
  let H1 := H.set (n) (some (.row [nilS] 0 true))
  (bld [nilS] []).bind fun v2 =>
  let H3 := H1.set (n + 2) (some (.row [nilS] 0 true))
  (st true 1 (ptr (n + 2) 0) v2 H3).bind fun H4 =>
  (C 74 [t 0, .int .i64 16] H4 (n + 7)).bind fun q5 =>
  (L (S73L0 C L) (put (put (put (put (put (put (put t 2 (ptr (n) 0)) 6 v2) 3 (ptr (n + 2) 0)) 7 (t 0)) 8 q5.1) 4 q5.1) 5 (.int .i64 0)) q5.2.1 (q5.2.2 + 1)).bind fun (o6 : Out) =>
  (ld true 1 (o6.t 3) o6.H).bind fun v11 =>
  (st true 1 (o6.t 2) v11 o6.H).bind fun H12 =>
  (ld true 1 (o6.t 2) H12).bind fun v13 =>
  some (v13, H12, o6.n + 2)
theorem s73 (C : Calling) (L : Body → Body) (t : Tm) (H : Hp) (n : Nat) : bodyK Try.prog C L Try.f73 t H n = S73 C L t H n := by kernel_rfl
theorem c73 (args : List Value) (H : Hp) (n : Nat) : Call Try.prog 73 args H n = S73 (Call Try.prog) Loop (argsT args) H n := (Call_body Try.func73 args H n).trans (s73 ..)
/-! 74: spec.l1Below -/
noncomputable def S74 (C : Calling) (L : Body → Body) (t : Tm) (H : Hp) (n : Nat) : Option (Value × Hp × Nat) :=
  (binK .plain .leq (t 1) (.int .i64 0)).bind fun v1 =>
  csel v1
    (some (.int .i64 0, H, n + 4))
    ((binK .plain .leq (t 1) (.int .i64 256)).bind fun v2 =>
     csel v2
       ((C 91 [t 0] H (n + 10)).bind fun q3 =>
        (binK .plain .rem q3.1 (t 1)).bind fun v4 =>
        some (v4, q3.2.1, q3.2.2))
       ((C 91 [t 0] H (n + 8)).bind fun q5 =>
        (C 91 [t 0] q5.2.1 (q5.2.2 + 3)).bind fun q6 =>
        (C 91 [t 0] q6.2.1 (q6.2.2 + 3)).bind fun q7 =>
        (C 91 [t 0] q7.2.1 (q7.2.2 + 3)).bind fun q8 =>
        (binK .plain .mul q5.1 (.int .i64 16777216)).bind fun v9 =>
        (binK .plain .mul q6.1 (.int .i64 65536)).bind fun v10 =>
        (binK .plain .add v9 v10).bind fun v11 =>
        (binK .plain .mul q7.1 (.int .i64 256)).bind fun v12 =>
        (binK .plain .add v11 v12).bind fun v13 =>
        (binK .plain .add v13 q8.1).bind fun v14 =>
        (binK .plain .rem v14 (t 1)).bind fun v15 =>
        some (v15, q8.2.1, q8.2.2 + 13)))
theorem s74 (C : Calling) (L : Body → Body) (t : Tm) (H : Hp) (n : Nat) : bodyK Try.prog C L Try.f74 t H n = S74 C L t H n := by kernel_rfl
theorem c74 (args : List Value) (H : Hp) (n : Nat) : Call Try.prog 74 args H n = S74 (Call Try.prog) Loop (argsT args) H n := (Call_body Try.func74 args H n).trans (s74 ..)
/-! 75: spec.l2DrawAtom -/
noncomputable def S75 (C : Calling) (L : Body → Body) (t : Tm) (H : Hp) (n : Nat) : Option (Value × Hp × Nat) :=
  let H1 := H.set (n) (some (.row [.int .i64 0, .int .i64 0, .string ⟨#[]⟩, .int .i64 0, .int .i64 0] 0 true))
  (C 74 [t 0, .int .i64 8] H1 (n + 3)).bind fun q2 =>
  (binK .plain .eql q2.1 (.int .i64 0)).bind fun v3 =>
  csel v3
    ((bld [.int .i64 0, .int .i64 0, .string ⟨#[]⟩, .int .i64 0, .int .i64 0] [(0, 1, .int .i64 1)]).bind fun v4 =>
     (st true 5 (ptr (n) 0) v4 q2.2.1).bind fun H5 =>
     (ld true 5 (ptr (n) 0) H5).bind fun v6 =>
     some (v6, H5, q2.2.2 + 4))
    ((binK .plain .eql q2.1 (.int .i64 1)).bind fun v7 =>
     csel v7
       ((C 74 [t 0, .int .i64 2] q2.2.1 (q2.2.2 + 8)).bind fun q8 =>
        (bld [.int .i64 0, .int .i64 0, .string ⟨#[]⟩, .int .i64 0, .int .i64 0] [(0, 1, .int .i64 2), (1, 1, q8.1)]).bind fun v9 =>
        (st true 5 (ptr (n) 0) v9 q8.2.1).bind fun H10 =>
        (ld true 5 (ptr (n) 0) H10).bind fun v11 =>
        some (v11, H10, q8.2.2))
       ((binK .plain .eql q2.1 (.int .i64 2)).bind fun v12 =>
        csel v12
          ((bsl (q2.2.2 + 7) 1 6 [.string ⟨#[]⟩] [(0, 1, .string ⟨#[97]⟩), (1, 1, .string ⟨#[98, 99]⟩), (2, 1, .string ⟨#[120]⟩), (3, 1, .string ⟨#[102]⟩), (4, 1, .string ⟨#[43]⟩), (5, 1, .string ⟨#[108, 105, 115, 116]⟩)] q2.2.1).bind fun p13 =>
           (C 78 [t 0, p13.1] p13.2 (q2.2.2 + 11)).bind fun q14 =>
           (bld [.int .i64 0, .int .i64 0, .string ⟨#[]⟩, .int .i64 0, .int .i64 0] [(0, 1, .int .i64 4), (2, 1, q14.1)]).bind fun v15 =>
           (st true 5 (ptr (n) 0) v15 q14.2.1).bind fun H16 =>
           (ld true 5 (ptr (n) 0) H16).bind fun v17 =>
           some (v17, H16, q14.2.2))
          ((binK .plain .eql q2.1 (.int .i64 3)).bind fun v18 =>
           csel v18
             ((C 74 [t 0, .int .i64 5] q2.2.1 (q2.2.2 + 12)).bind fun q19 =>
              (bld [.int .i64 0, .int .i64 0, .string ⟨#[]⟩, .int .i64 0, .int .i64 0] [(0, 1, .int .i64 9), (1, 1, q19.1)]).bind fun v20 =>
              (st true 5 (ptr (n) 0) v20 q19.2.1).bind fun H21 =>
              (ld true 5 (ptr (n) 0) H21).bind fun v22 =>
              some (v22, H21, q19.2.2))
             ((binK .plain .eql q2.1 (.int .i64 4)).bind fun v23 =>
              csel v23
                ((C 74 [t 0, .int .i64 5] q2.2.1 (q2.2.2 + 14)).bind fun q24 =>
                 (bld [.int .i64 0, .int .i64 0, .string ⟨#[]⟩, .int .i64 0, .int .i64 0] [(0, 1, .int .i64 8), (1, 1, q24.1)]).bind fun v25 =>
                 (st true 5 (ptr (n) 0) v25 q24.2.1).bind fun H26 =>
                 (ld true 5 (ptr (n) 0) H26).bind fun v27 =>
                 some (v27, H26, q24.2.2))
                ((C 74 [t 0, .int .i64 12] q2.2.1 (q2.2.2 + 15)).bind fun q28 =>
                 (binK .plain .sub q28.1 (.int .i64 3)).bind fun v29 =>
                 (bld [.int .i64 0, .int .i64 0, .string ⟨#[]⟩, .int .i64 0, .int .i64 0] [(0, 1, .int .i64 3), (1, 1, v29)]).bind fun v30 =>
                 (st true 5 (ptr (n) 0) v30 q28.2.1).bind fun H31 =>
                 (ld true 5 (ptr (n) 0) H31).bind fun v32 =>
                 some (v32, H31, q28.2.2))))))
theorem s75 (C : Calling) (L : Body → Body) (t : Tm) (H : Hp) (n : Nat) : bodyK Try.prog C L Try.f75 t H n = S75 C L t H n := by kernel_rfl
theorem c75 (args : List Value) (H : Hp) (n : Nat) : Call Try.prog 75 args H n = S75 (Call Try.prog) Loop (argsT args) H n := (Call_body Try.func75 args H n).trans (s75 ..)
/-! 76: spec.l1Min -/
noncomputable def S76 (C : Calling) (L : Body → Body) (t : Tm) (H : Hp) (n : Nat) : Option (Value × Hp × Nat) :=
  (binK .plain .lss (t 0) (t 1)).bind fun v1 =>
  csel v1
    (some (t 0, H, n + 6))
    (some (t 1, H, n + 6))
theorem s76 (C : Calling) (L : Body → Body) (t : Tm) (H : Hp) (n : Nat) : bodyK Try.prog C L Try.f76 t H n = S76 C L t H n := by kernel_rfl
theorem c76 (args : List Value) (H : Hp) (n : Nat) : Call Try.prog 76 args H n = S76 (Call Try.prog) Loop (argsT args) H n := (Call_body Try.func76 args H n).trans (s76 ..)
/-! 77: spec.l1PickInt -/
noncomputable def S77 (C : Calling) (L : Body → Body) (t : Tm) (H : Hp) (n : Nat) : Option (Value × Hp × Nat) :=
  (lenV false (t 1)).bind fun v1 =>
  (C 74 [t 0, v1] H (n + 9)).bind fun q2 =>
  (idxA 1 (t 1) q2.1).bind fun v3 =>
  (ld false 1 v3 q2.2.1).bind fun v4 =>
  some (v4, q2.2.1, q2.2.2)
theorem s77 (C : Calling) (L : Body → Body) (t : Tm) (H : Hp) (n : Nat) : bodyK Try.prog C L Try.f77 t H n = S77 C L t H n := by kernel_rfl
theorem c77 (args : List Value) (H : Hp) (n : Nat) : Call Try.prog 77 args H n = S77 (Call Try.prog) Loop (argsT args) H n := (Call_body Try.func77 args H n).trans (s77 ..)
/-! 78: spec.l1Pick -/
noncomputable def S78 (C : Calling) (L : Body → Body) (t : Tm) (H : Hp) (n : Nat) : Option (Value × Hp × Nat) :=
  (lenV false (t 1)).bind fun v1 =>
  (C 74 [t 0, v1] H (n + 9)).bind fun q2 =>
  (idxA 1 (t 1) q2.1).bind fun v3 =>
  (ld false 1 v3 q2.2.1).bind fun v4 =>
  some (v4, q2.2.1, q2.2.2)
theorem s78 (C : Calling) (L : Body → Body) (t : Tm) (H : Hp) (n : Nat) : bodyK Try.prog C L Try.f78 t H n = S78 C L t H n := by kernel_rfl
theorem c78 (args : List Value) (H : Hp) (n : Nat) : Call Try.prog 78 args H n = S78 (Call Try.prog) Loop (argsT args) H n := (Call_body Try.func78 args H n).trans (s78 ..)
/-! 79: impl.NameOk -/
noncomputable def S79L0 (C : Calling) (L : Body → Body) : Body := fun t H n =>
  (binK .plain .lss (t 10) (t 9)).bind fun v6 =>
  csel v6
    ((idxS (t 0) (t 10)).bind fun v7 =>
     (C 92 [v7] H (n + 8)).bind fun q8 =>
     (un .not q8.1).bind fun v9 =>
     csel v9
       (some ⟨.ret, put (put (put (put (put (put (put (put (put t 11 v6) 12 (t 10)) 3 (t 10)) 13 (t 0)) 14 (t 10)) 15 v7) 16 q8.1) 17 v9) 2 (.bool false), q8.2.1, q8.2.2 + 1⟩)
       ((binK .plain .add (t 10) (.int .i64 1)).bind fun v10 =>
        some ⟨.normal, put (put (put (put (put (put (put (put (put (put t 11 v6) 12 (t 10)) 3 (t 10)) 13 (t 0)) 14 (t 10)) 15 v7) 16 q8.1) 17 v9) 18 v10) 10 v10, q8.2.1, q8.2.2 + 2⟩))
    (some ⟨(.exit 0), put t 11 v6, H, n + 1⟩)
noncomputable def S79 (C : Calling) (L : Body → Body) (t : Tm) (H : Hp) (n : Nat) : Option (Value × Hp × Nat) :=
  (lenV true (t 0)).bind fun v1 =>
  (C 80 [v1, .int .i64 1, .int .i64 12] H (n + 5)).bind fun q2 =>
  (un .not q2.1).bind fun v3 =>
  csel v3
    (some (.bool false, q2.2.1, q2.2.2 + 1))
    ((lenV true (t 0)).bind fun v4 =>
     (L (S79L0 C L) (put (put (put (put (put (put (put (put t 2 (.bool false)) 4 (t 0)) 5 v1) 6 q2.1) 7 v3) 8 (t 0)) 9 v4) 10 (.int .i64 0)) q2.2.1 (q2.2.2 + 3)).bind fun (o5 : Out) =>
     let o11 := outOf 0 o5
     thenK o11
       (some (.bool true, o11.H, o11.n + 1))
       (finE o11.e
          (some (o11.t 2, o11.H, o11.n))))
theorem s79 (C : Calling) (L : Body → Body) (t : Tm) (H : Hp) (n : Nat) : bodyK Try.prog C L Try.f79 t H n = S79 C L t H n := by kernel_rfl
theorem c79 (args : List Value) (H : Hp) (n : Nat) : Call Try.prog 79 args H n = S79 (Call Try.prog) Loop (argsT args) H n := (Call_body Try.func79 args H n).trans (s79 ..)
/-! 80: impl.within -/
noncomputable def S80 (C : Calling) (L : Body → Body) (t : Tm) (H : Hp) (n : Nat) : Option (Value × Hp × Nat) :=
  (binK .plain .geq (t 0) (t 1)).bind fun v1 =>
  let t3 : Tm := put (put (put (put (put t 6 (.bool false)) 7 (t 0)) 8 (t 1)) 9 v1) 10 v1
  (gsel v1 true
    ((binK .plain .leq (t3 0) (t3 2)).bind fun v4 =>
     some (put (put (put t3 11 (t3 0)) 12 (t3 2)) 13 v4, H, n + 10))
    (some (put (put (put t3 11 (.tuple #[])) 12 (.tuple #[])) 13 (.tuple #[]), H, n + 10))
  ).bind fun (q2 : R3) =>
  (pickV (q2.1 10) (q2.1 13) (.bool false)).bind fun v5 =>
  some (v5, q2.2.1, q2.2.2)
theorem s80 (C : Calling) (L : Body → Body) (t : Tm) (H : Hp) (n : Nat) : bodyK Try.prog C L Try.f80 t H n = S80 C L t H n := by kernel_rfl
theorem c80 (args : List Value) (H : Hp) (n : Nat) : Call Try.prog 80 args H n = S80 (Call Try.prog) Loop (argsT args) H n := (Call_body Try.func80 args H n).trans (s80 ..)
/-! 81: spec.l2DrawAt -/
noncomputable def S81 (C : Calling) (L : Body → Body) (t : Tm) (H : Hp) (n : Nat) : Option (Value × Hp × Nat) :=
  (vcells (t 1)).bind fun c2 =>
  let H1 := H.set (n) (some (.row c2 0 true))
  (fieldA 0 (ptr (n) 0)).bind fun v3 =>
  (ld false 1 v3 H1).bind fun v4 =>
  (lenV false v4).bind fun v5 =>
  (binK .plain .eql v5 (.int .i64 0)).bind fun v6 =>
  let t8 : Tm := put (put (put (put (put (put (put t 3 (ptr (n) 0)) 4 (.int .i64 0)) 5 v3) 6 v4) 7 v5) 8 v6) 9 v6
  (gsel v6 false
    ((C 50 [t8 0, .int .i64 20] H1 (n + 10)).bind fun q9 =>
     some (put (put t8 10 (t8 0)) 11 q9.1, q9.2.1, q9.2.2))
    (some (put (put t8 10 (.tuple #[])) 11 (.tuple #[]), H1, n + 10))
  ).bind fun (q7 : R3) =>
  (pickV (q7.1 9) (.bool true) (q7.1 11)).bind fun v10 =>
  csel v10
    ((fieldA 0 (q7.1 3)).bind fun v11 =>
     (ld false 1 v11 q7.2.1).bind fun v12 =>
     (lenV false v12).bind fun v13 =>
     (bsl (q7.2.2 + 4) 1 3 [.int .i64 0] [(0, 1, .int .i64 (-1)), (1, 1, .int .i64 0), (2, 1, v13)] q7.2.1).bind fun p14 =>
     (C 77 [q7.1 0, p14.1] p14.2 (q7.2.2 + 7)).bind fun q15 =>
     some (q15.1, q15.2.1, q15.2.2))
    ((fieldA 0 (q7.1 3)).bind fun v16 =>
     (ld false 1 v16 q7.2.1).bind fun v17 =>
     (lenV false v17).bind fun v18 =>
     (binK .plain .sub v18 (.int .i64 1)).bind fun v19 =>
     (fieldA 0 (q7.1 3)).bind fun v20 =>
     (ld false 1 v20 q7.2.1).bind fun v21 =>
     (lenV false v21).bind fun v22 =>
     (C 76 [v22, .int .i64 9] q7.2.1 (q7.2.2 + 12)).bind fun q23 =>
     ask (ld false 1 v16 q23.2.1 = some v17) <|
     (C 74 [q7.1 0, q23.1] q23.2.1 (q23.2.2)).bind fun q24 =>
     ask (ld false 1 v16 q24.2.1 = some v17) <|
     (binK .plain .sub v19 q24.1).bind fun v25 =>
     some (v25, q24.2.1, q24.2.2))
theorem s81 (C : Calling) (L : Body → Body) (t : Tm) (H : Hp) (n : Nat) : bodyK Try.prog C L Try.f81 t H n = S81 C L t H n := by kernel_rfl
theorem c81 (args : List Value) (H : Hp) (n : Nat) : Call Try.prog 81 args H n = S81 (Call Try.prog) Loop (argsT args) H n := (Call_body Try.func81 args H n).trans (s81 ..)
/-! 82: impl.rootsOk$1 -/
noncomputable def S82 (C : Calling) (L : Body → Body) (t : Tm) (H : Hp) (n : Nat) : Option (Value × Hp × Nat) :=
  (ld true 1 (t 1) H).bind fun v1 =>
  (C 53 [v1, t 0] H (n + 6)).bind fun q2 =>
  (un .not q2.1).bind fun v3 =>
  some (v3, q2.2.1, q2.2.2)
theorem s82 (C : Calling) (L : Body → Body) (t : Tm) (H : Hp) (n : Nat) : bodyK Try.prog C L Try.f82 t H n = S82 C L t H n := by kernel_rfl
theorem c82 (args : List Value) (H : Hp) (n : Nat) : Call Try.prog 82 args H n = S82 (Call Try.prog) Loop (argsT args) H n := (Call_body Try.func82 args H n).trans (s82 ..)
/-! 83: spec.l3Digits -/
noncomputable def S83L0 (C : Calling) (L : Body → Body) : Body := fun t H n =>
  (binK .plain .gtr (t 0) (.int .i64 0)).bind fun v7 =>
  csel v7
    ((binK .plain .rem (t 0) (.int .i64 10)).bind fun v8 =>
     (binK .plain .add (.int .i64 48) v8).bind fun v9 =>
     (conv (.toInt .u8) (n + 5) v9 H).bind fun p10 =>
     (bsl (n + 6) 1 1 [.int .u8 0] [(0, 1, p10.1)] p10.2).bind fun p11 =>
     (conv .bytesToStr (n + 7) p11.1 p11.2).bind fun p12 =>
     (binK .plain .add p12.1 (t 3)).bind fun v13 =>
     (binK .plain .quo (t 0) (.int .i64 10)).bind fun v14 =>
     some ⟨.normal, put (put (put (put (put (put (put (put (put (put (put (put (put (put t 12 (t 0)) 13 v7) 14 (t 0)) 15 v8) 16 v9) 17 p10.1) 18 p11.1) 19 p12.1) 20 (t 3)) 21 v13) 3 v13) 22 (t 0)) 23 v14) 0 v14, p12.2, n + 14⟩)
    (some ⟨(.exit 0), put (put t 12 (t 0)) 13 v7, H, n + 2⟩)
noncomputable def S83 (C : Calling) (L : Body → Body) (t : Tm) (H : Hp) (n : Nat) : Option (Value × Hp × Nat) :=
  (binK .plain .lss (t 0) (.int .i64 0)).bind fun v1 =>
  csel v1
    ((binK .plain .sub (.int .i64 0) (t 0)).bind fun v2 =>
     (C 83 [v2] H (n + 8)).bind fun q3 =>
     (binK .plain .add (.string ⟨#[45]⟩) q3.1).bind fun v4 =>
     some (v4, q3.2.1, q3.2.2))
    ((binK .plain .eql (t 0) (.int .i64 0)).bind fun v5 =>
     csel v5
       (some (.string ⟨#[48]⟩, H, n + 6))
       ((L (S83L0 C L) (put (put (put (put (put (put t 2 (.string ⟨#[]⟩)) 4 (t 0)) 5 v1) 10 (t 0)) 11 v5) 3 (.string ⟨#[]⟩)) H (n + 6)).bind fun (o6 : Out) =>
        some (o6.t 3, o6.H, o6.n + 2)))
theorem s83 (C : Calling) (L : Body → Body) (t : Tm) (H : Hp) (n : Nat) : bodyK Try.prog C L Try.f83 t H n = S83 C L t H n := by kernel_rfl
theorem c83 (args : List Value) (H : Hp) (n : Nat) : Call Try.prog 83 args H n = S83 (Call Try.prog) Loop (argsT args) H n := (Call_body Try.func83 args H n).trans (s83 ..)
/-! 84: impl.writing).text -/
noncomputable def S84 (C : Calling) (L : Body → Body) (t : Tm) (H : Hp) (n : Nat) : Option (Value × Hp × Nat) :=
  (nilchk (t 0)).bind fun v1 =>
  (fieldA 1 v1).bind fun v2 =>
  (ld false 1 v2 H).bind fun v3 =>
  (app (n + 6) 1 1 v3 (t 1) H).bind fun p4 =>
  (nilchk (t 0)).bind fun v5 =>
  (fieldA 1 v5).bind fun v6 =>
  (st false 1 v6 p4.1 p4.2).bind fun H7 =>
  some (.tuple ⟨[]⟩, H7, n + 10)
theorem s84 (C : Calling) (L : Body → Body) (t : Tm) (H : Hp) (n : Nat) : bodyK Try.prog C L Try.f84 t H n = S84 C L t H n := by kernel_rfl
theorem c84 (args : List Value) (H : Hp) (n : Nat) : Call Try.prog 84 args H n = S84 (Call Try.prog) Loop (argsT args) H n := (Call_body Try.func84 args H n).trans (s84 ..)
/-! 85: impl.writing).pairs -/
noncomputable def S85L0 (C : Calling) (L : Body → Body) : Body := fun t H n =>
  (nilchk (t 0)).bind fun v2 =>
  (fieldA 0 v2).bind fun v3 =>
  (fieldA 0 v3).bind fun v4 =>
  (ld false 1 v4 H).bind fun v5 =>
  (idxA 5 v5 (t 1)).bind fun v6 =>
  (fieldA 0 v6).bind fun v7 =>
  (ld false 1 v7 H).bind fun v8 =>
  (binK .plain .eql v8 (.int .i64 5)).bind fun v9 =>
  let t11 : Tm := put (put (put (put (put (put (put (put (put (put (put t 6 (t 0)) 7 v2) 8 v3) 9 v4) 10 v5) 11 (t 1)) 12 v6) 13 v7) 14 v8) 15 v9) 16 v9
  (gsel v9 true
    ((C 63 [t11 0] H (n + 15)).bind fun q12 =>
     (un .not q12.1).bind fun v13 =>
     some (put (put (put t11 17 (t11 0)) 18 q12.1) 19 v13, q12.2.1, q12.2.2))
    (some (put (put (put t11 17 (.tuple #[])) 18 (.tuple #[])) 19 (.tuple #[]), H, n + 15))
  ).bind fun (q10 : R3) =>
  (pickV (q10.1 16) (q10.1 19) (.bool false)).bind fun v14 =>
  csel v14
    ((un .not (q10.1 4)).bind fun v15 =>
     let t17 : Tm := put (put (put q10.1 20 v14) 21 (q10.1 4)) 22 v15
     (csel v15
       ((C 84 [t17 0, .string ⟨#[32]⟩] q10.2.1 (q10.2.2 + 4)).bind fun q18 =>
        some ⟨.normal, put (put t17 23 (t17 0)) 24 q18.1, q18.2.1, q18.2.2⟩)
       (some ⟨.normal, t17, q10.2.1, q10.2.2 + 2⟩)
     ).bind fun (o16 : Out) =>
     (nilchk (o16.t 0)).bind fun v19 =>
     (fieldA 0 v19).bind fun v20 =>
     (fieldA 0 v20).bind fun v21 =>
     (ld false 1 v21 o16.H).bind fun v22 =>
     (idxA 5 v22 (o16.t 1)).bind fun v23 =>
     (fieldA 3 v23).bind fun v24 =>
     (ld false 1 v24 o16.H).bind fun v25 =>
     (C 62 [o16.t 0, v25] o16.H (o16.n + 11)).bind fun q26 =>
     (nilchk (o16.t 0)).bind fun v27 =>
     (fieldA 0 v27).bind fun v28 =>
     (fieldA 0 v28).bind fun v29 =>
     (ld false 1 v29 q26.2.1).bind fun v30 =>
     (idxA 5 v30 (o16.t 1)).bind fun v31 =>
     (fieldA 4 v31).bind fun v32 =>
     (ld false 1 v32 q26.2.1).bind fun v33 =>
     some ⟨.normal, put (put (put (put (put (put (put (put (put (put (put (put (put (put (put (put (put (put (put (put (put (put o16.t 25 (o16.t 0)) 26 (o16.t 0)) 27 v19) 28 v20) 29 v21) 30 v22) 31 (o16.t 1)) 32 v23) 33 v24) 34 v25) 35 q26.1) 36 (o16.t 0)) 37 v27) 38 v28) 39 v29) 40 v30) 41 (o16.t 1)) 42 v31) 43 v32) 44 v33) 1 v33) 4 (.bool false), q26.2.1, q26.2.2 + 11⟩)
    (some ⟨(.exit 0), put q10.1 20 v14, q10.2.1, q10.2.2⟩)
noncomputable def S85 (C : Calling) (L : Body → Body) (t : Tm) (H : Hp) (n : Nat) : Option (Value × Hp × Nat) :=
  (L (S85L0 C L) (put t 4 (.bool true)) H (n + 1)).bind fun (o1 : Out) =>
  (nilchk (o1.t 0)).bind fun v34 =>
  (fieldA 0 v34).bind fun v35 =>
  (fieldA 0 v35).bind fun v36 =>
  (ld false 1 v36 o1.H).bind fun v37 =>
  (idxA 5 v37 (o1.t 1)).bind fun v38 =>
  (fieldA 0 v38).bind fun v39 =>
  (ld false 1 v39 o1.H).bind fun v40 =>
  (binK .plain .neq v40 (.int .i64 1)).bind fun v41 =>
  let t43 : Tm := put (put (put (put (put (put (put (put (put (put (put (put (put o1.t 45 (o1.t 0)) 46 v34) 47 v35) 48 v36) 49 v37) 50 (o1.t 1)) 51 v38) 52 v39) 53 v40) 5 v40) 54 v40) 55 v41) 56 v41
  (gsel v41 true
    ((binK .plain .neq v40 (.int .i64 5)).bind fun v44 =>
     some (put (put t43 57 v40) 58 v44, o1.H, o1.n + 16))
    (some (put (put t43 57 (.tuple #[])) 58 (.tuple #[]), o1.H, o1.n + 16))
  ).bind fun (q42 : R3) =>
  (pickV (q42.1 56) (q42.1 58) (.bool false)).bind fun v45 =>
  let t47 : Tm := put q42.1 59 v45
  (csel v45
    ((C 84 [t47 0, .string ⟨#[32, 46, 32]⟩] q42.2.1 (q42.2.2 + 2)).bind fun q48 =>
     (C 62 [t47 0, t47 1] q48.2.1 (q48.2.2 + 3)).bind fun q49 =>
     some ⟨.normal, put (put (put (put (put t47 60 (t47 0)) 61 q48.1) 62 (t47 0)) 63 (t47 1)) 64 q49.1, q49.2.1, q49.2.2⟩)
    (some ⟨.normal, t47, q42.2.1, q42.2.2⟩)
  ).bind fun (o46 : Out) =>
  some (.tuple ⟨[]⟩, o46.H, o46.n)
theorem s85 (C : Calling) (L : Body → Body) (t : Tm) (H : Hp) (n : Nat) : bodyK Try.prog C L Try.f85 t H n = S85 C L t H n := by kernel_rfl
theorem c85 (args : List Value) (H : Hp) (n : Nat) : Call Try.prog 85 args H n = S85 (Call Try.prog) Loop (argsT args) H n := (Call_body Try.func85 args H n).trans (s85 ..)
/-! 86: impl.decimal -/
noncomputable def S86 (C : Calling) (L : Body → Body) (t : Tm) (H : Hp) (n : Nat) : Option (Value × Hp × Nat) :=
  (binK .plain .lss (t 0) (.int .i64 0)).bind fun v1 =>
  let t3 : Tm := put (put (put (put t 2 (.string ⟨#[]⟩)) 4 (t 0)) 5 v1) 6 v1
  (gsel v1 true
    ((binK .plain .gtr (t3 0) (.int .i64 (-10))).bind fun v4 =>
     some (put (put t3 7 (t3 0)) 8 v4, H, n + 8))
    (some (put (put t3 7 (.tuple #[])) 8 (.tuple #[]), H, n + 8))
  ).bind fun (q2 : R3) =>
  (pickV (q2.1 6) (q2.1 8) (.bool false)).bind fun v5 =>
  csel v5
    ((un .neg (q2.1 0)).bind fun v6 =>
     (C 86 [v6] q2.2.1 (q2.2.2 + 5)).bind fun q7 =>
     (binK .plain .add (.string ⟨#[45]⟩) q7.1).bind fun v8 =>
     some (v8, q7.2.1, q7.2.2))
    ((binK .plain .lss (q2.1 0) (.int .i64 0)).bind fun v9 =>
     csel v9
       ((binK .plain .quo (q2.1 0) (.int .i64 10)).bind fun v10 =>
        (C 86 [v10] q2.2.1 (q2.2.2 + 12)).bind fun q11 =>
        (binK .plain .rem (q2.1 0) (.int .i64 10)).bind fun v12 =>
        (un .neg v12).bind fun v13 =>
        (C 86 [v13] q11.2.1 (q11.2.2)).bind fun q14 =>
        (binK .plain .add q11.1 q14.1).bind fun v15 =>
        some (v15, q14.2.1, q14.2.2))
       ((binK .plain .lss (q2.1 0) (.int .i64 10)).bind fun v16 =>
        csel v16
          ((binK .plain .add (.int .i64 48) (q2.1 0)).bind fun v17 =>
           (conv (.toInt .i32) (q2.2.2 + 8) v17 q2.2.1).bind fun p18 =>
           (conv .intToStr (q2.2.2 + 9) p18.1 p18.2).bind fun p19 =>
           some (p19.1, p19.2, q2.2.2 + 11))
          ((binK .plain .quo (q2.1 0) (.int .i64 10)).bind fun v20 =>
           (C 86 [v20] q2.2.1 (q2.2.2 + 16)).bind fun q21 =>
           (binK .plain .rem (q2.1 0) (.int .i64 10)).bind fun v22 =>
           (binK .plain .add (.int .i64 48) v22).bind fun v23 =>
           (conv (.toInt .i32) (q2.2.2 + 12) v23 q21.2.1).bind fun p24 =>
           (conv .intToStr (q2.2.2 + 13) p24.1 p24.2).bind fun p25 =>
           (binK .plain .add q21.1 p25.1).bind fun v26 =>
           some (v26, p25.2, q21.2.2))))
theorem s86 (C : Calling) (L : Body → Body) (t : Tm) (H : Hp) (n : Nat) : bodyK Try.prog C L Try.f86 t H n = S86 C L t H n := by kernel_rfl
theorem c86 (args : List Value) (H : Hp) (n : Nat) : Call Try.prog 86 args H n = S86 (Call Try.prog) Loop (argsT args) H n := (Call_body Try.func86 args H n).trans (s86 ..)
/-! 87: spec.l2Add -/
noncomputable def S87 (C : Calling) (L : Body → Body) (t : Tm) (H : Hp) (n : Nat) : Option (Value × Hp × Nat) :=
  (vcells (t 1)).bind fun c2 =>
  let H1 := H.set (n) (some (.row c2 0 true))
  (nilchk (t 0)).bind fun v3 =>
  (fieldA 0 v3).bind fun v4 =>
  (ld false 1 v4 H1).bind fun v5 =>
  (ld true 5 (ptr (n) 0) H1).bind fun v6 =>
  (bsl (n + 8) 5 1 [.int .i64 0, .int .i64 0, .string ⟨#[]⟩, .int .i64 0, .int .i64 0] [(0, 5, v6)] H1).bind fun p7 =>
  (app (n + 9) 5 48 v5 p7.1 p7.2).bind fun p8 =>
  (nilchk (t 0)).bind fun v9 =>
  (fieldA 0 v9).bind fun v10 =>
  (st false 1 v10 p8.1 p8.2).bind fun H11 =>
  (nilchk (t 0)).bind fun v12 =>
  (fieldA 0 v12).bind fun v13 =>
  (ld false 1 v13 H11).bind fun v14 =>
  (lenV false v14).bind fun v15 =>
  (binK .plain .sub v15 (.int .i64 1)).bind fun v16 =>
  some (v16, H11, n + 20)
theorem s87 (C : Calling) (L : Body → Body) (t : Tm) (H : Hp) (n : Nat) : bodyK Try.prog C L Try.f87 t H n = S87 C L t H n := by kernel_rfl
theorem c87 (args : List Value) (H : Hp) (n : Nat) : Call Try.prog 87 args H n = S87 (Call Try.prog) Loop (argsT args) H n := (Call_body Try.func87 args H n).trans (s87 ..)
/-! 88: slices.IndexFunc[[]int,int] -/
noncomputable def S88L0 (C : Calling) (L : Body → Body) : Body := fun t H n =>
  (binK .plain .lss (t 8) (t 7)).bind fun v3 =>
  csel v3
    ((idxA 1 (t 0) (t 8)).bind fun v4 =>
     (ld false 1 v4 H).bind fun v5 =>
     (calleeP (t 1) [v5]).bind fun c7 =>
     (C c7.1 c7.2 H (n + 9)).bind fun q6 =>
     csel q6.1
       (some ⟨.ret, put (put (put (put (put (put (put (put (put (put (put t 9 v3) 10 (t 8)) 5 (t 8)) 11 (t 1)) 12 (t 0)) 13 (t 8)) 14 v4) 15 v5) 16 q6.1) 17 (t 8)) 4 (t 8), q6.2.1, q6.2.2 + 2⟩)
       ((binK .plain .add (t 8) (.int .i64 1)).bind fun v8 =>
        some ⟨.normal, put (put (put (put (put (put (put (put (put (put (put t 9 v3) 10 (t 8)) 5 (t 8)) 11 (t 1)) 12 (t 0)) 13 (t 8)) 14 v4) 15 v5) 16 q6.1) 18 v8) 8 v8, q6.2.1, q6.2.2 + 2⟩))
    (some ⟨(.exit 0), put t 9 v3, H, n + 1⟩)
noncomputable def S88 (C : Calling) (L : Body → Body) (t : Tm) (H : Hp) (n : Nat) : Option (Value × Hp × Nat) :=
  (lenV false (t 0)).bind fun v1 =>
  (L (S88L0 C L) (put (put (put (put t 4 (.int .i64 0)) 6 (t 0)) 7 v1) 8 (.int .i64 0)) H (n + 4)).bind fun (o2 : Out) =>
  let o9 := outOf 0 o2
  thenK o9
    (some (.int .i64 (-1), o9.H, o9.n + 1))
    (finE o9.e
       (some (o9.t 4, o9.H, o9.n)))
theorem s88 (C : Calling) (L : Body → Body) (t : Tm) (H : Hp) (n : Nat) : bodyK Try.prog C L Try.f88 t H n = S88 C L t H n := by kernel_rfl
theorem c88 (args : List Value) (H : Hp) (n : Nat) : Call Try.prog 88 args H n = S88 (Call Try.prog) Loop (argsT args) H n := (Call_body Try.func88 args H n).trans (s88 ..)
/-! 89: impl.Pool).pair -/
noncomputable def S89 (C : Calling) (L : Body → Body) (t : Tm) (H : Hp) (n : Nat) : Option (Value × Hp × Nat) :=
  (bld [.int .i64 0, .int .i64 0, .string ⟨#[]⟩, .int .i64 0, .int .i64 0] [(0, 1, .int .i64 5), (3, 1, t 1), (4, 1, t 2)]).bind fun v1 =>
  (C 42 [t 0, v1] H (n + 7)).bind fun q2 =>
  some (q2.1, q2.2.1, q2.2.2)
theorem s89 (C : Calling) (L : Body → Body) (t : Tm) (H : Hp) (n : Nat) : bodyK Try.prog C L Try.f89 t H n = S89 C L t H n := by kernel_rfl
theorem c89 (args : List Value) (H : Hp) (n : Nat) : Call Try.prog 89 args H n = S89 (Call Try.prog) Loop (argsT args) H n := (Call_body Try.func89 args H n).trans (s89 ..)
/-! 90: spec.l2NameByte -/
noncomputable def S90 (C : Calling) (L : Body → Body) (t : Tm) (H : Hp) (n : Nat) : Option (Value × Hp × Nat) :=
  (binK .plain .geq (t 0) (.int .u8 97)).bind fun v1 =>
  let t3 : Tm := put (put (put (put t 2 (.bool false)) 3 (t 0)) 4 v1) 5 v1
  (gsel v1 true
    ((binK .plain .leq (t3 0) (.int .u8 122)).bind fun v4 =>
     some (put (put t3 6 (t3 0)) 7 v4, H, n + 40))
    (some (put (put t3 6 (.tuple #[])) 7 (.tuple #[]), H, n + 40))
  ).bind fun (q2 : R3) =>
  (pickV (q2.1 5) (q2.1 7) (.bool false)).bind fun v5 =>
  let t7 : Tm := put (put q2.1 8 v5) 9 v5
  (gsel v5 false
    ((binK .plain .eql (t7 0) (.int .u8 43)).bind fun v8 =>
     some (put (put t7 10 (t7 0)) 11 v8, q2.2.1, q2.2.2))
    (some (put (put t7 10 (.tuple #[])) 11 (.tuple #[]), q2.2.1, q2.2.2))
  ).bind fun (q6 : R3) =>
  (pickV (q6.1 9) (.bool true) (q6.1 11)).bind fun v9 =>
  let t11 : Tm := put (put q6.1 12 v9) 13 v9
  (gsel v9 false
    ((binK .plain .eql (t11 0) (.int .u8 45)).bind fun v12 =>
     some (put (put t11 14 (t11 0)) 15 v12, q6.2.1, q6.2.2))
    (some (put (put t11 14 (.tuple #[])) 15 (.tuple #[]), q6.2.1, q6.2.2))
  ).bind fun (q10 : R3) =>
  (pickV (q10.1 13) (.bool true) (q10.1 15)).bind fun v13 =>
  let t15 : Tm := put (put q10.1 16 v13) 17 v13
  (gsel v13 false
    ((binK .plain .eql (t15 0) (.int .u8 42)).bind fun v16 =>
     some (put (put t15 18 (t15 0)) 19 v16, q10.2.1, q10.2.2))
    (some (put (put t15 18 (.tuple #[])) 19 (.tuple #[]), q10.2.1, q10.2.2))
  ).bind fun (q14 : R3) =>
  (pickV (q14.1 17) (.bool true) (q14.1 19)).bind fun v17 =>
  let t19 : Tm := put (put q14.1 20 v17) 21 v17
  (gsel v17 false
    ((binK .plain .eql (t19 0) (.int .u8 60)).bind fun v20 =>
     some (put (put t19 22 (t19 0)) 23 v20, q14.2.1, q14.2.2))
    (some (put (put t19 22 (.tuple #[])) 23 (.tuple #[]), q14.2.1, q14.2.2))
  ).bind fun (q18 : R3) =>
  (pickV (q18.1 21) (.bool true) (q18.1 23)).bind fun v21 =>
  let t23 : Tm := put (put q18.1 24 v21) 25 v21
  (gsel v21 false
    ((binK .plain .eql (t23 0) (.int .u8 61)).bind fun v24 =>
     some (put (put t23 26 (t23 0)) 27 v24, q18.2.1, q18.2.2))
    (some (put (put t23 26 (.tuple #[])) 27 (.tuple #[]), q18.2.1, q18.2.2))
  ).bind fun (q22 : R3) =>
  (pickV (q22.1 25) (.bool true) (q22.1 27)).bind fun v25 =>
  let t27 : Tm := put (put q22.1 28 v25) 29 v25
  (gsel v25 false
    ((binK .plain .eql (t27 0) (.int .u8 63)).bind fun v28 =>
     some (put (put t27 30 (t27 0)) 31 v28, q22.2.1, q22.2.2))
    (some (put (put t27 30 (.tuple #[])) 31 (.tuple #[]), q22.2.1, q22.2.2))
  ).bind fun (q26 : R3) =>
  (pickV (q26.1 29) (.bool true) (q26.1 31)).bind fun v29 =>
  let t31 : Tm := put (put q26.1 32 v29) 33 v29
  (gsel v29 false
    ((binK .plain .eql (t31 0) (.int .u8 33)).bind fun v32 =>
     some (put (put t31 34 (t31 0)) 35 v32, q26.2.1, q26.2.2))
    (some (put (put t31 34 (.tuple #[])) 35 (.tuple #[]), q26.2.1, q26.2.2))
  ).bind fun (q30 : R3) =>
  (pickV (q30.1 33) (.bool true) (q30.1 35)).bind fun v33 =>
  let t35 : Tm := put (put q30.1 36 v33) 37 v33
  (gsel v33 false
    ((binK .plain .eql (t35 0) (.int .u8 47)).bind fun v36 =>
     some (put (put t35 38 (t35 0)) 39 v36, q30.2.1, q30.2.2))
    (some (put (put t35 38 (.tuple #[])) 39 (.tuple #[]), q30.2.1, q30.2.2))
  ).bind fun (q34 : R3) =>
  (pickV (q34.1 37) (.bool true) (q34.1 39)).bind fun v37 =>
  some (v37, q34.2.1, q34.2.2)
theorem s90 (C : Calling) (L : Body → Body) (t : Tm) (H : Hp) (n : Nat) : bodyK Try.prog C L Try.f90 t H n = S90 C L t H n := by kernel_rfl
theorem c90 (args : List Value) (H : Hp) (n : Nat) : Call Try.prog 90 args H n = S90 (Call Try.prog) Loop (argsT args) H n := (Call_body Try.func90 args H n).trans (s90 ..)
/-! 91: spec.l1Byte -/
noncomputable def S91 (C : Calling) (L : Body → Body) (t : Tm) (H : Hp) (n : Nat) : Option (Value × Hp × Nat) :=
  (nilchk (t 0)).bind fun v1 =>
  (fieldA 2 v1).bind fun v2 =>
  (ld false 1 v2 H).bind fun v3 =>
  (binK .plain .mul v3 (.int .i64 6364136223846793005)).bind fun v4 =>
  (binK .plain .add v4 (.int .i64 1442695040888963407)).bind fun v5 =>
  (nilchk (t 0)).bind fun v6 =>
  (fieldA 2 v6).bind fun v7 =>
  (st false 1 v7 v5 H).bind fun H8 =>
  (nilchk (t 0)).bind fun v9 =>
  (fieldA 2 v9).bind fun v10 =>
  (ld false 1 v10 H8).bind fun v11 =>
  (binK .plain .shr v11 (.int .u64 33)).bind fun v12 =>
  (nilchk (t 0)).bind fun v13 =>
  (fieldA 2 v13).bind fun v14 =>
  (ld false 1 v14 H8).bind fun v15 =>
  (binK .plain .shr v15 (.int .u64 45)).bind fun v16 =>
  (binK .plain .xor v12 v16).bind fun v17 =>
  (binK .plain .and v17 (.int .i64 255)).bind fun v18 =>
  (nilchk (t 0)).bind fun v19 =>
  (fieldA 1 v19).bind fun v20 =>
  (ld false 1 v20 H8).bind fun v21 =>
  (nilchk (t 0)).bind fun v22 =>
  (fieldA 0 v22).bind fun v23 =>
  (ld false 1 v23 H8).bind fun v24 =>
  (lenV false v24).bind fun v25 =>
  (binK .plain .lss v21 v25).bind fun v26 =>
  let t28 : Tm := put (put (put (put (put (put (put (put (put (put (put (put (put (put (put (put (put (put (put (put (put (put (put (put (put (put (put (put (put (put (put (put (put t 2 (.int .i64 0)) 4 (t 0)) 5 (t 0)) 6 v1) 7 v2) 8 v3) 9 v4) 10 v5) 11 v6) 12 v7) 13 (t 0)) 14 v9) 15 v10) 16 v11) 17 v12) 18 (t 0)) 19 v13) 20 v14) 21 v15) 22 v16) 23 v17) 24 v18) 3 v18) 25 (t 0)) 26 v19) 27 v20) 28 v21) 29 (t 0)) 30 v22) 31 v23) 32 v24) 33 v25) 34 v26
  (csel v26
    ((nilchk (t28 0)).bind fun v29 =>
     (fieldA 0 v29).bind fun v30 =>
     (ld false 1 v30 H8).bind fun v31 =>
     (nilchk (t28 0)).bind fun v32 =>
     (fieldA 1 v32).bind fun v33 =>
     (ld false 1 v33 H8).bind fun v34 =>
     (idxA 1 v31 v34).bind fun v35 =>
     (ld false 1 v35 H8).bind fun v36 =>
     (conv (.toInt .i64) (n + 45) v36 H8).bind fun p37 =>
     (binK .plain .add v18 p37.1).bind fun v38 =>
     (binK .plain .and v38 (.int .i64 255)).bind fun v39 =>
     (nilchk (t28 0)).bind fun v40 =>
     (fieldA 1 v40).bind fun v41 =>
     (ld false 1 v41 p37.2).bind fun v42 =>
     (binK .plain .add v42 (.int .i64 1)).bind fun v43 =>
     (nilchk (t28 0)).bind fun v44 =>
     (fieldA 1 v44).bind fun v45 =>
     (st false 1 v45 v43 p37.2).bind fun H46 =>
     some ⟨.normal, put (put (put (put (put (put (put (put (put (put (put (put (put (put (put (put (put (put (put (put (put (put (put t28 35 v18) 36 (t28 0)) 37 v29) 38 v30) 39 v31) 40 (t28 0)) 41 v32) 42 v33) 43 v34) 44 v35) 45 v36) 46 p37.1) 47 v38) 48 v39) 3 v39) 49 (t28 0)) 50 (t28 0)) 51 v40) 52 v41) 53 v42) 54 v43) 55 v44) 56 v45, H46, n + 58⟩)
    (some ⟨.normal, t28, H8, n + 34⟩)
  ).bind fun (o27 : Out) =>
  some (o27.t 3, o27.H, o27.n + 2)
theorem s91 (C : Calling) (L : Body → Body) (t : Tm) (H : Hp) (n : Nat) : bodyK Try.prog C L Try.f91 t H n = S91 C L t H n := by kernel_rfl
theorem c91 (args : List Value) (H : Hp) (n : Nat) : Call Try.prog 91 args H n = S91 (Call Try.prog) Loop (argsT args) H n := (Call_body Try.func91 args H n).trans (s91 ..)
/-! 92: impl.isNameByte -/
noncomputable def S92 (C : Calling) (L : Body → Body) (t : Tm) (H : Hp) (n : Nat) : Option (Value × Hp × Nat) :=
  (binK .plain .geq (t 0) (.int .u8 97)).bind fun v1 =>
  let t3 : Tm := put (put (put (put t 2 (.bool false)) 3 (t 0)) 4 v1) 5 v1
  (gsel v1 true
    ((binK .plain .leq (t3 0) (.int .u8 122)).bind fun v4 =>
     some (put (put t3 6 (t3 0)) 7 v4, H, n + 14))
    (some (put (put t3 6 (.tuple #[])) 7 (.tuple #[]), H, n + 14))
  ).bind fun (q2 : R3) =>
  (pickV (q2.1 5) (q2.1 7) (.bool false)).bind fun v5 =>
  let t7 : Tm := put (put q2.1 8 v5) 9 v5
  (gsel v5 false
    ((bsl (n + 8) 1 8 [.int .u8 0] [(0, 1, .int .u8 43), (1, 1, .int .u8 45), (2, 1, .int .u8 42), (3, 1, .int .u8 60), (4, 1, .int .u8 61), (5, 1, .int .u8 63), (6, 1, .int .u8 33), (7, 1, .int .u8 47)] q2.2.1).bind fun p8 =>
     (conv .mark (n + 9) p8.1 p8.2).bind fun p9 =>
     (C 93 [p9.1, t7 0] p9.2 (q2.2.2)).bind fun q10 =>
     some (put (put (put (put t7 10 p8.1) 11 p9.1) 12 (t7 0)) 13 q10.1, q10.2.1, q10.2.2))
    (some (put (put (put (put t7 10 (.tuple #[])) 11 (.tuple #[])) 12 (.tuple #[])) 13 (.tuple #[]), q2.2.1, q2.2.2))
  ).bind fun (q6 : R3) =>
  (pickV (q6.1 9) (.bool true) (q6.1 13)).bind fun v11 =>
  some (v11, q6.2.1, q6.2.2)
theorem s92 (C : Calling) (L : Body → Body) (t : Tm) (H : Hp) (n : Nat) : bodyK Try.prog C L Try.f92 t H n = S92 C L t H n := by kernel_rfl
theorem c92 (args : List Value) (H : Hp) (n : Nat) : Call Try.prog 92 args H n = S92 (Call Try.prog) Loop (argsT args) H n := (Call_body Try.func92 args H n).trans (s92 ..)
end Go.Proofs.Ytcjbaidcmidijaa.Ax
