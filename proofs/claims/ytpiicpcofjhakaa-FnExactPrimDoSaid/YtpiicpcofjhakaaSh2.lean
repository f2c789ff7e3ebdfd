/- What the bodies of some functions of the program come to in the abstract machine. -/
import Derived.Test.YtpiicpcofjhakaaProg
import Derived.Test.YtpiicpcofjhakaaAx3
set_option linter.unusedVariables false
namespace Go.Proofs.Ytpiicpcofjhakaa.Ax
open Go
set_option maxRecDepth 100000
/-! 63: slices.ContainsFunc[[]int,int] -/
noncomputable def S63 (C : Calling) (L : Body → Body) (t : Tm) (H : Hp) (n : Nat) : Option (Value × Hp × Nat) :=
  (C 101 [t 0, t 1] H (n + 6)).bind fun q1 =>
  (binK .plain .geq q1.1 (.int .i64 0)).bind fun v2 =>
  some (v2, q1.2.1, q1.2.2)
theorem s63 (C : Calling) (L : Body → Body) (t : Tm) (H : Hp) (n : Nat) : bodyK Try.prog C L Try.f63 t H n = S63 C L t H n := by kernel_rfl
theorem c63 (args : List Value) (H : Hp) (n : Nat) : Call Try.prog 63 args H n = S63 (Call Try.prog) Loop (argsT args) H n := (Call_body Try.func63 args H n).trans (s63 ..)
/-! 64: impl.PrimDo$1 -/
noncomputable def S64 (C : Calling) (L : Body → Body) (t : Tm) (H : Hp) (n : Nat) : Option (Value × Hp × Nat) :=
  (ld true 1 (t 1) H).bind fun v1 =>
  (C 65 [v1, t 0] H (n + 6)).bind fun q2 =>
  (un .not q2.1).bind fun v3 =>
  some (v3, q2.2.1, q2.2.2)
theorem s64 (C : Calling) (L : Body → Body) (t : Tm) (H : Hp) (n : Nat) : bodyK Try.prog C L Try.f64 t H n = S64 C L t H n := by kernel_rfl
theorem c64 (args : List Value) (H : Hp) (n : Nat) : Call Try.prog 64 args H n = S64 (Call Try.prog) Loop (argsT args) H n := (Call_body Try.func64 args H n).trans (s64 ..)
/-! 65: impl.isNode -/
noncomputable def S65 (C : Calling) (L : Body → Body) (t : Tm) (H : Hp) (n : Nat) : Option (Value × Hp × Nat) :=
  (vcells (t 0)).bind fun c2 =>
  let H1 := H.set (n) (some (.row c2 0 true))
  (fieldA 0 (ptr (n) 0)).bind fun v3 =>
  (ld false 1 v3 H1).bind fun v4 =>
  (lenV false v4).bind fun v5 =>
  (binK .plain .sub v5 (.int .i64 1)).bind fun v6 =>
  (C 51 [t 1, .int .i64 0, v6] H1 (n + 9)).bind fun q7 =>
  some (q7.1, q7.2.1, q7.2.2)
theorem s65 (C : Calling) (L : Body → Body) (t : Tm) (H : Hp) (n : Nat) : bodyK Try.prog C L Try.f65 t H n = S65 C L t H n := by kernel_rfl
theorem c65 (args : List Value) (H : Hp) (n : Nat) : Call Try.prog 65 args H n = S65 (Call Try.prog) Loop (argsT args) H n := (Call_body Try.func65 args H n).trans (s65 ..)
/-! 66: impl.copyPool -/
noncomputable def S66 (C : Calling) (L : Body → Body) (t : Tm) (H : Hp) (n : Nat) : Option (Value × Hp × Nat) :=
  (vcells (t 0)).bind fun c2 =>
  let H1 := H.set (n) (some (.row c2 0 true))
  let H3 := H1.set (n + 1) (some (.row [nilS] 0 true))
  (fieldA 0 (ptr (n) 0)).bind fun v4 =>
  (ld false 1 v4 H3).bind fun v5 =>
  (C 102 [v5] H3 (n + 7)).bind fun q6 =>
  (bld [nilS] [(0, 1, q6.1)]).bind fun v7 =>
  (st true 1 (ptr (n + 1) 0) v7 q6.2.1).bind fun H8 =>
  (ld true 1 (ptr (n + 1) 0) H8).bind fun v9 =>
  some (v9, H8, q6.2.2)
theorem s66 (C : Calling) (L : Body → Body) (t : Tm) (H : Hp) (n : Nat) : bodyK Try.prog C L Try.f66 t H n = S66 C L t H n := by kernel_rfl
theorem c66 (args : List Value) (H : Hp) (n : Nat) : Call Try.prog 66 args H n = S66 (Call Try.prog) Loop (argsT args) H n := (Call_body Try.func66 args H n).trans (s66 ..)
/-! 67: impl.Pool).prim -/
noncomputable def S67L0 (C : Calling) (L : Body → Body) : Body := fun t H n =>
  (binK .plain .lss (t 13) (t 12)).bind fun v3 =>
  csel v3
    ((idxA 1 (t 11) (t 13)).bind fun v4 =>
     (ld false 1 v4 H).bind fun v5 =>
     (binK .plain .leq (t 1) (.int .i64 5)).bind fun v6 =>
     let t8 : Tm := put (put (put (put (put (put (put t 14 v3) 15 v4) 16 v5) 9 v5) 17 (t 1)) 18 v6) 19 v6
     (gsel v6 true
       ((nilchk (t8 0)).bind fun v9 =>
        (fieldA 0 v9).bind fun v10 =>
        (ld false 1 v10 H).bind fun v11 =>
        (idxA 5 v11 v5).bind fun v12 =>
        (fieldA 0 v12).bind fun v13 =>
        (ld false 1 v13 H).bind fun v14 =>
        (binK .plain .neq v14 (.int .i64 3)).bind fun v15 =>
        some (put (put (put (put (put (put (put (put (put t8 20 (t8 0)) 21 v9) 22 v10) 23 v11) 24 v5) 25 v12) 26 v13) 27 v14) 28 v15, H, n + 36))
       (some (put (put (put (put (put (put (put (put (put t8 20 (.tuple #[])) 21 (.tuple #[])) 22 (.tuple #[])) 23 (.tuple #[])) 24 (.tuple #[])) 25 (.tuple #[])) 26 (.tuple #[])) 27 (.tuple #[])) 28 (.tuple #[]), H, n + 36))
     ).bind fun (q7 : R3) =>
     (pickV (q7.1 19) (q7.1 28) (.bool false)).bind fun v16 =>
     let t18 : Tm := put (put q7.1 29 v16) 30 v16
     (gsel v16 false
       ((binK .plain .eql (t18 1) (.int .i64 7)).bind fun v19 =>
        some (put (put (put t18 31 (t18 1)) 32 v19) 33 v19, q7.2.1, q7.2.2))
       (some (put (put (put t18 31 (.tuple #[])) 32 (.tuple #[])) 33 (.tuple #[]), q7.2.1, q7.2.2))
     ).bind fun (q17 : R3) =>
     let t21 : Tm := q17.1
     (gsel (q17.1 33) false
       ((binK .plain .eql (t21 1) (.int .i64 8)).bind fun v22 =>
        some (put (put t21 34 (t21 1)) 35 v22, q17.2.1, q17.2.2))
       (some (put (put t21 34 (.tuple #[])) 35 (.tuple #[]), q17.2.1, q17.2.2))
     ).bind fun (q20 : R3) =>
     let t24 : Tm := q20.1
     (gsel (q20.1 30) false
       ((pickV (t24 33) (.bool true) (t24 35)).bind fun v25 =>
        some (put (put t24 36 v25) 37 v25, q20.2.1, q20.2.2))
       (some (put (put t24 36 (.tuple #[])) 37 (.tuple #[]), q20.2.1, q20.2.2))
     ).bind fun (q23 : R3) =>
     let t27 : Tm := q23.1
     (gsel (q23.1 37) true
       ((nilchk (t27 0)).bind fun v28 =>
        (fieldA 0 v28).bind fun v29 =>
        (ld false 1 v29 q23.2.1).bind fun v30 =>
        (idxA 5 v30 (t27 9)).bind fun v31 =>
        (fieldA 0 v31).bind fun v32 =>
        (ld false 1 v32 q23.2.1).bind fun v33 =>
        (binK .plain .neq v33 (.int .i64 5)).bind fun v34 =>
        some (put (put (put (put (put (put (put (put (put t27 38 (t27 0)) 39 v28) 40 v29) 41 v30) 42 (t27 9)) 43 v31) 44 v32) 45 v33) 46 v34, q23.2.1, q23.2.2))
       (some (put (put (put (put (put (put (put (put (put t27 38 (.tuple #[])) 39 (.tuple #[])) 40 (.tuple #[])) 41 (.tuple #[])) 42 (.tuple #[])) 43 (.tuple #[])) 44 (.tuple #[])) 45 (.tuple #[])) 46 (.tuple #[]), q23.2.1, q23.2.2))
     ).bind fun (q26 : R3) =>
     let t36 : Tm := q26.1
     (gsel (q26.1 30) false
       ((pickV (t36 37) (t36 46) (.bool false)).bind fun v37 =>
        some (put t36 47 v37, q26.2.1, q26.2.2))
       (some (put t36 47 (.tuple #[]), q26.2.1, q26.2.2))
     ).bind fun (q35 : R3) =>
     (pickV (q35.1 30) (.bool true) (q35.1 47)).bind fun v38 =>
     csel v38
       (some ⟨.ret, put (put (put q35.1 48 v38) 6 (.int .i64 (-1))) 7 (.int .i64 3), q35.2.1, q35.2.2 + 2⟩)
       ((binK .plain .add (q35.1 13) (.int .i64 1)).bind fun v39 =>
        some ⟨.normal, put (put (put q35.1 48 v38) 49 v39) 13 v39, q35.2.1, q35.2.2 + 2⟩))
    (some ⟨(.exit 0), put t 14 v3, H, n + 1⟩)
noncomputable def S67 (C : Calling) (L : Body → Body) (t : Tm) (H : Hp) (n : Nat) : Option (Value × Hp × Nat) :=
  (lenV false (t 2)).bind fun v1 =>
  (L (S67L0 C L) (put (put (put (put (put t 6 (.int .i64 0)) 7 (.int .i64 0)) 11 (t 2)) 12 v1) 13 (.int .i64 0)) H (n + 5)).bind fun (o2 : Out) =>
  let o40 := outOf 0 o2
  thenK o40
    ((binK .plain .eql (o40.t 1) (.int .i64 7)).bind fun v41 =>
     csel v41
       ((nilchk (o40.t 0)).bind fun v42 =>
        (fieldA 0 v42).bind fun v43 =>
        (ld false 1 v43 o40.H).bind fun v44 =>
        (idxA 1 (o40.t 2) (.int .i64 0)).bind fun v45 =>
        (ld false 1 v45 o40.H).bind fun v46 =>
        (idxA 5 v44 v46).bind fun v47 =>
        (fieldA 3 v47).bind fun v48 =>
        (ld false 1 v48 o40.H).bind fun v49 =>
        iteK ([v49, .int .i64 0].all notTup) <|
        some (.tuple ⟨[v49, .int .i64 0]⟩, o40.H, o40.n + 15))
       ((binK .plain .eql (o40.t 1) (.int .i64 8)).bind fun v50 =>
        csel v50
          ((nilchk (o40.t 0)).bind fun v51 =>
           (fieldA 0 v51).bind fun v52 =>
           (ld false 1 v52 o40.H).bind fun v53 =>
           (idxA 1 (o40.t 2) (.int .i64 0)).bind fun v54 =>
           (ld false 1 v54 o40.H).bind fun v55 =>
           (idxA 5 v53 v55).bind fun v56 =>
           (fieldA 4 v56).bind fun v57 =>
           (ld false 1 v57 o40.H).bind fun v58 =>
           iteK ([v58, .int .i64 0].all notTup) <|
           some (.tuple ⟨[v58, .int .i64 0]⟩, o40.H, o40.n + 17))
          ((nilchk (o40.t 0)).bind fun v59 =>
           (ld true 1 v59 o40.H).bind fun v60 =>
           (C 103 [v60, o40.t 1, o40.t 2] o40.H (o40.n + 13)).bind fun q61 =>
           let H62 := q61.2.1.set (o40.n + 11) (some (.row [.int .i64 0, .int .i64 0, .string ⟨#[]⟩, .int .i64 0, .int .i64 0] 0 true))
           (st true 5 (ptr (o40.n + 11) 0) q61.1 H62).bind fun H63 =>
           (fieldA 1 (ptr (o40.n + 11) 0)).bind fun v64 =>
           (ld false 1 v64 H63).bind fun v65 =>
           (C 51 [v65, .int .i64 (-1000000000), .int .i64 1000000000] H63 (q61.2.2 + 4)).bind fun q66 =>
           (un .not q66.1).bind fun v67 =>
           csel v67
             (iteK ([.int .i64 (-1), .int .i64 4].all notTup) <|
              some (.tuple ⟨[.int .i64 (-1), .int .i64 4]⟩, q66.2.1, q66.2.2 + 2))
             ((ld true 5 (ptr (o40.n + 11) 0) q66.2.1).bind fun v68 =>
              (C 104 [o40.t 0, v68] q66.2.1 (q66.2.2 + 5)).bind fun q69 =>
              iteK ([q69.1, .int .i64 0].all notTup) <|
              some (.tuple ⟨[q69.1, .int .i64 0]⟩, q69.2.1, q69.2.2)))))
    (finE o40.e
       (iteK ([o40.t 6, o40.t 7].all notTup) <|
        some (.tuple ⟨[o40.t 6, o40.t 7]⟩, o40.H, o40.n)))
theorem s67 (C : Calling) (L : Body → Body) (t : Tm) (H : Hp) (n : Nat) : bodyK Try.prog C L Try.f67 t H n = S67 C L t H n := by kernel_rfl
theorem c67 (args : List Value) (H : Hp) (n : Nat) : Call Try.prog 67 args H n = S67 (Call Try.prog) Loop (argsT args) H n := (Call_body Try.func67 args H n).trans (s67 ..)
/-! 68: spec.l2Has -/
noncomputable def S68 (C : Calling) (L : Body → Body) (t : Tm) (H : Hp) (n : Nat) : Option (Value × Hp × Nat) :=
  (vcells (t 0)).bind fun c2 =>
  let H1 := H.set (n) (some (.row c2 0 true))
  (fieldA 0 (ptr (n) 0)).bind fun v3 =>
  (ld false 1 v3 H1).bind fun v4 =>
  (lenV false v4).bind fun v5 =>
  (binK .plain .sub v5 (.int .i64 1)).bind fun v6 =>
  (C 45 [t 1, .int .i64 0, v6] H1 (n + 9)).bind fun q7 =>
  some (q7.1, q7.2.1, q7.2.2)
theorem s68 (C : Calling) (L : Body → Body) (t : Tm) (H : Hp) (n : Nat) : bodyK Try.prog C L Try.f68 t H n = S68 C L t H n := by kernel_rfl
theorem c68 (args : List Value) (H : Hp) (n : Nat) : Call Try.prog 68 args H n = S68 (Call Try.prog) Loop (argsT args) H n := (Call_body Try.func68 args H n).trans (s68 ..)
/-! 69: spec.l2Copy -/
noncomputable def S69 (C : Calling) (L : Body → Body) (t : Tm) (H : Hp) (n : Nat) : Option (Value × Hp × Nat) :=
  (vcells (t 0)).bind fun c2 =>
  let H1 := H.set (n) (some (.row c2 0 true))
  let H3 := H1.set (n + 1) (some (.row [nilS] 0 true))
  (bsl (n + 2) 5 0 [.int .i64 0, .int .i64 0, .string ⟨#[]⟩, .int .i64 0, .int .i64 0] [] H3).bind fun p4 =>
  (fieldA 0 (ptr (n) 0)).bind fun v5 =>
  (ld false 1 v5 p4.2).bind fun v6 =>
  (app (n + 5) 5 48 p4.1 v6 p4.2).bind fun p7 =>
  (bld [nilS] [(0, 1, p7.1)]).bind fun v8 =>
  (st true 1 (ptr (n + 1) 0) v8 p7.2).bind fun H9 =>
  (ld true 1 (ptr (n + 1) 0) H9).bind fun v10 =>
  some (v10, H9, n + 8)
theorem s69 (C : Calling) (L : Body → Body) (t : Tm) (H : Hp) (n : Nat) : bodyK Try.prog C L Try.f69 t H n = S69 C L t H n := by kernel_rfl
theorem c69 (args : List Value) (H : Hp) (n : Nat) : Call Try.prog 69 args H n = S69 (Call Try.prog) Loop (argsT args) H n := (Call_body Try.func69 args H n).trans (s69 ..)
/-! 70: spec.l5Do -/
noncomputable def S70 (C : Calling) (L : Body → Body) (t : Tm) (H : Hp) (n : Nat) : Option (Value × Hp × Nat) :=
  (nilchk (t 0)).bind fun v1 =>
  (fieldA 0 v1).bind fun v2 =>
  (ld false 1 v2 H).bind fun v3 =>
  (idxA 1 (t 2) (.int .i64 0)).bind fun v4 =>
  (ld false 1 v4 H).bind fun v5 =>
  (idxA 5 v3 v5).bind fun v6 =>
  (ld true 5 v6 H).bind fun v7 =>
  let H8 := H.set (n + 11) (some (.row [.int .i64 0, .int .i64 0, .string ⟨#[]⟩, .int .i64 0, .int .i64 0] 0 true))
  (st true 5 (ptr (n + 11) 0) v7 H8).bind fun H9 =>
  (binK .plain .leq (t 1) (.int .i64 5)).bind fun v10 =>
  csel v10
    ((ld true 5 (ptr (n + 11) 0) H9).bind fun v11 =>
     (nilchk (t 0)).bind fun v12 =>
     (fieldA 0 v12).bind fun v13 =>
     (ld false 1 v13 H9).bind fun v14 =>
     (idxA 1 (t 2) (.int .i64 1)).bind fun v15 =>
     (ld false 1 v15 H9).bind fun v16 =>
     (idxA 5 v14 v16).bind fun v17 =>
     (ld true 5 v17 H9).bind fun v18 =>
     (C 105 [t 1, v11, v18] H9 (n + 34)).bind fun q19 =>
     (ext 0 q19.1).bind fun v20 =>
     (ext 1 q19.1).bind fun v21 =>
     let H22 := q19.2.1.set (n + 31) (some (.row [.int .i64 0, .int .i64 0, .string ⟨#[]⟩, .int .i64 0, .int .i64 0] 0 true))
     (st true 5 (ptr (n + 31) 0) v20 H22).bind fun H23 =>
     (binK .plain .neq v21 (.int .i64 0)).bind fun v24 =>
     csel v24
       (iteK ([.int .i64 (-1), v21].all notTup) <|
        some (.tuple ⟨[.int .i64 (-1), v21]⟩, H23, q19.2.2 + 5))
       ((ld true 5 (ptr (n + 31) 0) H23).bind fun v25 =>
        (C 58 [t 0, v25] H23 (q19.2.2 + 8)).bind fun q26 =>
        iteK ([q26.1, v21].all notTup) <|
        some (.tuple ⟨[q26.1, v21]⟩, q26.2.1, q26.2.2)))
    ((binK .plain .eql (t 1) (.int .i64 6)).bind fun v27 =>
     csel v27
       ((idxA 1 (t 2) (.int .i64 0)).bind fun v28 =>
        (ld false 1 v28 H9).bind fun v29 =>
        (idxA 1 (t 2) (.int .i64 1)).bind fun v30 =>
        (ld false 1 v30 H9).bind fun v31 =>
        (bld [.int .i64 0, .int .i64 0, .string ⟨#[]⟩, .int .i64 0, .int .i64 0] [(0, 1, .int .i64 5), (3, 1, v29), (4, 1, v31)]).bind fun v32 =>
        (C 58 [t 0, v32] H9 (n + 30)).bind fun q33 =>
        iteK ([q33.1, .int .i64 0].all notTup) <|
        some (.tuple ⟨[q33.1, .int .i64 0]⟩, q33.2.1, q33.2.2))
       ((binK .plain .leq (t 1) (.int .i64 8)).bind fun v34 =>
        csel v34
          ((fieldA 0 (ptr (n + 11) 0)).bind fun v35 =>
           (ld false 1 v35 H9).bind fun v36 =>
           (binK .plain .neq v36 (.int .i64 5)).bind fun v37 =>
           csel v37
             (iteK ([.int .i64 (-1), .int .i64 3].all notTup) <|
              some (.tuple ⟨[.int .i64 (-1), .int .i64 3]⟩, H9, n + 27))
             ((binK .plain .eql (t 1) (.int .i64 7)).bind fun v38 =>
              csel v38
                ((fieldA 3 (ptr (n + 11) 0)).bind fun v39 =>
                 (ld false 1 v39 H9).bind fun v40 =>
                 iteK ([v40, .int .i64 0].all notTup) <|
                 some (.tuple ⟨[v40, .int .i64 0]⟩, H9, n + 31))
                ((fieldA 4 (ptr (n + 11) 0)).bind fun v41 =>
                 (ld false 1 v41 H9).bind fun v42 =>
                 iteK ([v42, .int .i64 0].all notTup) <|
                 some (.tuple ⟨[v42, .int .i64 0]⟩, H9, n + 31))))
          ((binK .plain .eql (t 1) (.int .i64 9)).bind fun v43 =>
           csel v43
             ((fieldA 0 (ptr (n + 11) 0)).bind fun v44 =>
              (ld false 1 v44 H9).bind fun v45 =>
              (binK .plain .eql v45 (.int .i64 1)).bind fun v46 =>
              (C 106 [v46] H9 (n + 33)).bind fun q47 =>
              (C 58 [t 0, q47.1] q47.2.1 (q47.2.2)).bind fun q48 =>
              iteK ([q48.1, .int .i64 0].all notTup) <|
              some (.tuple ⟨[q48.1, .int .i64 0]⟩, q48.2.1, q48.2.2))
             ((binK .plain .eql (t 1) (.int .i64 10)).bind fun v49 =>
              csel v49
                ((fieldA 0 (ptr (n + 11) 0)).bind fun v50 =>
                 (ld false 1 v50 H9).bind fun v51 =>
                 (binK .plain .eql v51 (.int .i64 5)).bind fun v52 =>
                 (C 106 [v52] H9 (n + 36)).bind fun q53 =>
                 (C 58 [t 0, q53.1] q53.2.1 (q53.2.2)).bind fun q54 =>
                 iteK ([q54.1, .int .i64 0].all notTup) <|
                 some (.tuple ⟨[q54.1, .int .i64 0]⟩, q54.2.1, q54.2.2))
                ((binK .plain .eql (t 1) (.int .i64 11)).bind fun v55 =>
                 csel v55
                   ((nilchk (t 0)).bind fun v56 =>
                    (ld true 1 v56 H9).bind fun v57 =>
                    (C 107 [v57] H9 (n + 36)).bind fun q58 =>
                    (idxA 1 (t 2) (.int .i64 0)).bind fun v59 =>
                    (ld false 1 v59 q58.2.1).bind fun v60 =>
                    (idxA 1 q58.1 v60).bind fun v61 =>
                    (ld false 1 v61 q58.2.1).bind fun v62 =>
                    (idxA 1 (t 2) (.int .i64 1)).bind fun v63 =>
                    (ld false 1 v63 q58.2.1).bind fun v64 =>
                    (idxA 1 q58.1 v64).bind fun v65 =>
                    (ld false 1 v65 q58.2.1).bind fun v66 =>
                    (binK .plain .eql v62 v66).bind fun v67 =>
                    (C 106 [v67] q58.2.1 (q58.2.2 + 18)).bind fun q68 =>
                    (C 58 [t 0, q68.1] q68.2.1 (q68.2.2)).bind fun q69 =>
                    iteK ([q69.1, .int .i64 0].all notTup) <|
                    some (.tuple ⟨[q69.1, .int .i64 0]⟩, q69.2.1, q69.2.2))
                   ((fieldA 0 (ptr (n + 11) 0)).bind fun v70 =>
                    (ld false 1 v70 H9).bind fun v71 =>
                    (binK .plain .eql v71 (.int .i64 2)).bind fun v72 =>
                    let t74 : Tm := put (put (put (put (put (put (put (put (put (put (put (put (put (put (put (put (put (put (put (put (put (put (put (put (put (put (put (put (put (put (put (put (put (put (put t 6 (.int .i64 0)) 7 (.int .i64 0)) 12 (t 0)) 13 v1) 14 v2) 15 v3) 16 (t 2)) 17 v4) 18 v5) 19 v6) 20 v7) 8 (ptr (n + 11) 0)) 22 (t 1)) 23 v10) 21 v10) 47 (t 1)) 48 v27) 46 v27) 59 (t 1)) 60 v34) 58 v34) 71 (t 1)) 72 v43) 70 v43) 80 (t 1)) 81 v49) 79 v49) 89 (t 1)) 90 v55) 88 v55) 111 (t 0)) 112 v70) 113 v71) 114 v72) 115 v72
                    (gsel v72 true
                      ((fieldA 1 (ptr (n + 11) 0)).bind fun v75 =>
                       (ld false 1 v75 H9).bind fun v76 =>
                       (binK .plain .eql v76 (.int .i64 0)).bind fun v77 =>
                       some (put (put (put t74 116 v75) 117 v76) 118 v77, H9, n + 44))
                      (some (put (put (put t74 116 (.tuple #[])) 117 (.tuple #[])) 118 (.tuple #[]), H9, n + 44))
                    ).bind fun (q73 : R3) =>
                    (pickV (q73.1 115) (q73.1 118) (.bool false)).bind fun v78 =>
                    (C 106 [v78] q73.2.1 (q73.2.2)).bind fun q79 =>
                    (C 58 [q73.1 111, q79.1] q79.2.1 (q79.2.2)).bind fun q80 =>
                    iteK ([q80.1, .int .i64 0].all notTup) <|
                    some (.tuple ⟨[q80.1, .int .i64 0]⟩, q80.2.1, q80.2.2)))))))
theorem s70 (C : Calling) (L : Body → Body) (t : Tm) (H : Hp) (n : Nat) : bodyK Try.prog C L Try.f70 t H n = S70 C L t H n := by kernel_rfl
theorem c70 (args : List Value) (H : Hp) (n : Nat) : Call Try.prog 70 args H n = S70 (Call Try.prog) Loop (argsT args) H n := (Call_body Try.func70 args H n).trans (s70 ..)
/-! 71: impl.nodeOk -/
noncomputable def S71 (C : Calling) (L : Body → Body) (t : Tm) (H : Hp) (n : Nat) : Option (Value × Hp × Nat) :=
  (vcells (t 0)).bind fun c2 =>
  let H1 := H.set (n) (some (.row c2 0 true))
  (fieldA 2 (ptr (n) 0)).bind fun v3 =>
  (ld false 1 v3 H1).bind fun v4 =>
  (binK .plain .eql v4 (.string ⟨#[]⟩)).bind fun v5 =>
  (fieldA 3 (ptr (n) 0)).bind fun v6 =>
  (ld false 1 v6 H1).bind fun v7 =>
  (binK .plain .eql v7 (.int .i64 0)).bind fun v8 =>
  (fieldA 4 (ptr (n) 0)).bind fun v9 =>
  (ld false 1 v9 H1).bind fun v10 =>
  (binK .plain .eql v10 (.int .i64 0)).bind fun v11 =>
  (fieldA 0 (ptr (n) 0)).bind fun v12 =>
  (ld false 1 v12 H1).bind fun v13 =>
  (binK .plain .eql v13 (.int .i64 1)).bind fun v14 =>
  let t16 : Tm := put (put (put (put (put (put (put (put (put (put (put (put (put (put (put (put (put (put (put (put t 2 (ptr (n) 0)) 4 (.bool false)) 10 v3) 11 v4) 12 v5) 5 (.int .i64 0)) 6 (.int .i64 0)) 7 v5) 13 v6) 14 v7) 15 v8) 16 v9) 17 v10) 18 v11) 8 v8) 9 v11) 19 v12) 20 v13) 22 v14) 21 v14
  (csel v14
    (some ⟨.normal, t16, H1, n + 20⟩)
    ((binK .plain .eql v13 (.int .i64 2)).bind fun v17 =>
     let t19 : Tm := put (put t16 24 v17) 23 v17
     (csel v17
       (some ⟨.normal, put t19 6 (.int .i64 1), H1, n + 23⟩)
       ((binK .plain .eql v13 (.int .i64 3)).bind fun v20 =>
        let t22 : Tm := put (put t19 26 v20) 25 v20
        (csel v20
          (some ⟨.normal, put (put t22 5 (.int .i64 (-1000000000))) 6 (.int .i64 1000000000), H1, n + 26⟩)
          ((binK .plain .eql v13 (.int .i64 4)).bind fun v23 =>
           let t25 : Tm := put (put t22 28 v23) 27 v23
           (csel v23
             ((fieldA 2 (ptr (n) 0)).bind fun v26 =>
              (ld false 1 v26 H1).bind fun v27 =>
              (C 49 [v27] H1 (n + 30)).bind fun q28 =>
              some ⟨.normal, put (put (put (put t25 29 v26) 30 v27) 31 q28.1) 7 q28.1, q28.2.1, q28.2.2⟩)
             ((binK .plain .eql v13 (.int .i64 5)).bind fun v29 =>
              let t31 : Tm := put (put t25 33 v29) 32 v29
              (csel v29
                ((fieldA 3 (ptr (n) 0)).bind fun v32 =>
                 (ld false 1 v32 H1).bind fun v33 =>
                 (binK .plain .sub (t31 1) (.int .i64 1)).bind fun v34 =>
                 (C 51 [v33, .int .i64 0, v34] H1 (n + 40)).bind fun q35 =>
                 (fieldA 4 (ptr (n) 0)).bind fun v36 =>
                 (ld false 1 v36 q35.2.1).bind fun v37 =>
                 ask (ld false 1 v36 H1 = some v37) <|
                 (binK .plain .sub (t31 1) (.int .i64 1)).bind fun v38 =>
                 (C 51 [v37, .int .i64 0, v38] q35.2.1 (q35.2.2)).bind fun q39 =>
                 some ⟨.normal, put (put (put (put (put (put (put (put (put (put (put (put t31 34 v32) 35 v33) 36 (t31 1)) 37 v34) 38 q35.1) 39 v36) 40 v37) 41 (t31 1)) 42 v38) 43 q39.1) 8 q35.1) 9 q39.1, q39.2.1, q39.2.2⟩)
                ((binK .plain .eql v13 (.int .i64 6)).bind fun v40 =>
                 let t42 : Tm := put (put t31 45 v40) 44 v40
                 (csel v40
                   ((fieldA 3 (ptr (n) 0)).bind fun v43 =>
                    (ld false 1 v43 H1).bind fun v44 =>
                    (binK .plain .sub (t42 1) (.int .i64 1)).bind fun v45 =>
                    (C 51 [v44, .int .i64 0, v45] H1 (n + 37)).bind fun q46 =>
                    some ⟨.normal, put (put (put (put (put (put (put t42 46 v43) 47 v44) 48 (t42 1)) 49 v45) 50 q46.1) 6 (.int .i64 1000000000)) 8 q46.1, q46.2.1, q46.2.2⟩)
                   ((binK .plain .eql v13 (.int .i64 7)).bind fun v47 =>
                    let t49 : Tm := put (put t42 52 v47) 51 v47
                    (csel v47
                      ((fieldA 3 (ptr (n) 0)).bind fun v50 =>
                       (ld false 1 v50 H1).bind fun v51 =>
                       (binK .plain .sub (t49 1) (.int .i64 1)).bind fun v52 =>
                       (C 51 [v51, .int .i64 0, v52] H1 (n + 38)).bind fun q53 =>
                       some ⟨.normal, put (put (put (put (put (put t49 53 v50) 54 v51) 55 (t49 1)) 56 v52) 57 q53.1) 8 q53.1, q53.2.1, q53.2.2⟩)
                      ((binK .plain .eql v13 (.int .i64 8)).bind fun v54 =>
                       let t56 : Tm := put (put t49 59 v54) 58 v54
                       (csel v54
                         (some ⟨.normal, put t56 6 (.int .i64 99), H1, n + 35⟩)
                         ((binK .plain .eql v13 (.int .i64 9)).bind fun v57 =>
                          csel v57
                            (some ⟨.normal, put (put (put t56 61 v57) 60 v57) 6 (.int .i64 1000000000), H1, n + 37⟩)
                            (some ⟨.ret, put (put (put t56 61 v57) 60 v57) 4 (.bool false), H1, n + 37⟩))
                       ).bind fun (o55 : Out) =>
                       some o55)
                    ).bind fun (o48 : Out) =>
                    some o48)
                 ).bind fun (o41 : Out) =>
                 some o41)
              ).bind fun (o30 : Out) =>
              some o30)
           ).bind fun (o24 : Out) =>
           some o24)
        ).bind fun (o21 : Out) =>
        some o21)
     ).bind fun (o18 : Out) =>
     some o18)
  ).bind fun (o15 : Out) =>
  let o58 := outOf 0 o15
  thenK o58
    ((fieldA 1 (o58.t 2)).bind fun v59 =>
     (ld false 1 v59 o58.H).bind fun v60 =>
     (C 51 [v60, o58.t 5, o58.t 6] o58.H (o58.n + 15)).bind fun q61 =>
     (pickV q61.1 (gsel q61.1 true (o58.t 7) (.tuple #[])) (.bool false)).bind fun v62 =>
     (pickV v62 (gsel v62 true (o58.t 8) (.tuple #[])) (.bool false)).bind fun v63 =>
     (pickV v63 (gsel v63 true (o58.t 9) (.tuple #[])) (.bool false)).bind fun v64 =>
     some (v64, q61.2.1, q61.2.2))
    (finE o58.e
       (some (o58.t 4, o58.H, o58.n)))
theorem s71 (C : Calling) (L : Body → Body) (t : Tm) (H : Hp) (n : Nat) : bodyK Try.prog C L Try.f71 t H n = S71 C L t H n := by kernel_rfl
theorem c71 (args : List Value) (H : Hp) (n : Nat) : Call Try.prog 71 args H n = S71 (Call Try.prog) Loop (argsT args) H n := (Call_body Try.func71 args H n).trans (s71 ..)
/-! 72: spec.l7Roots -/
noncomputable def S72L0 (C : Calling) (L : Body → Body) : Body := fun t H n =>
  (lenV false (t 1)).bind fun v4 =>
  (binK .plain .lss (t 5) v4).bind fun v5 =>
  csel v5
    ((ld true 1 (t 2) H).bind fun v6 =>
     (idxA 1 (t 1) (t 5)).bind fun v7 =>
     (ld false 1 v7 H).bind fun v8 =>
     (C 68 [v6, v8] H (n + 11)).bind fun q9 =>
     (un .not q9.1).bind fun v10 =>
     csel v10
       (some ⟨.ret, put (put (put (put (put (put (put (put (put (put (put (put t 6 (t 5)) 7 (t 1)) 8 v4) 9 v5) 12 v6) 13 (t 1)) 14 (t 5)) 15 v7) 16 v8) 17 q9.1) 18 v10) 4 (.bool false), q9.2.1, q9.2.2 + 1⟩)
       ((binK .plain .add (t 5) (.int .i64 1)).bind fun v11 =>
        some ⟨.normal, put (put (put (put (put (put (put (put (put (put (put (put (put (put t 6 (t 5)) 7 (t 1)) 8 v4) 9 v5) 12 v6) 13 (t 1)) 14 (t 5)) 15 v7) 16 v8) 17 q9.1) 18 v10) 10 (t 5)) 11 v11) 5 v11, q9.2.1, q9.2.2 + 3⟩))
    (some ⟨(.exit 0), put (put (put (put t 6 (t 5)) 7 (t 1)) 8 v4) 9 v5, H, n + 4⟩)
noncomputable def S72 (C : Calling) (L : Body → Body) (t : Tm) (H : Hp) (n : Nat) : Option (Value × Hp × Nat) :=
  (vcells (t 0)).bind fun c2 =>
  let H1 := H.set (n) (some (.row c2 0 true))
  (L (S72L0 C L) (put (put (put t 2 (ptr (n) 0)) 4 (.bool false)) 5 (.int .i64 0)) H1 (n + 3)).bind fun (o3 : Out) =>
  let o12 := outOf 0 o3
  thenK o12
    ((ld true 1 (o12.t 2) o12.H).bind fun v13 =>
     (C 41 [v13] o12.H (o12.n + 3)).bind fun q14 =>
     some (q14.1, q14.2.1, q14.2.2))
    (finE o12.e
       (some (o12.t 4, o12.H, o12.n)))
theorem s72 (C : Calling) (L : Body → Body) (t : Tm) (H : Hp) (n : Nat) : bodyK Try.prog C L Try.f72 t H n = S72 C L t H n := by kernel_rfl
theorem c72 (args : List Value) (H : Hp) (n : Nat) : Call Try.prog 72 args H n = S72 (Call Try.prog) Loop (argsT args) H n := (Call_body Try.func72 args H n).trans (s72 ..)
/-! 73: spec.l6Copy -/
noncomputable def S73 (C : Calling) (L : Body → Body) (t : Tm) (H : Hp) (n : Nat) : Option (Value × Hp × Nat) :=
  (vcells (t 0)).bind fun c2 =>
  let H1 := H.set (n) (some (.row c2 0 true))
  let H3 := H1.set (n + 1) (some (.row [nilS, .int .i64 0, .int .i64 0, .int .i64 0, .int .i64 0, .int .i64 0, .int .i64 0, .int .i64 0] 0 true))
  (fieldA 0 (ptr (n) 0)).bind fun v4 =>
  (ld true 1 v4 H3).bind fun v5 =>
  (C 69 [v5] H3 (n + 7)).bind fun q6 =>
  (fieldA 0 (ptr (n) 0)).bind fun v7 =>
  (st true 1 v7 q6.1 q6.2.1).bind fun H8 =>
  (ld true 8 (ptr (n) 0) H8).bind fun v9 =>
  (st true 8 (ptr (n + 1) 0) v9 H8).bind fun H10 =>
  (ld true 8 (ptr (n + 1) 0) H10).bind fun v11 =>
  some (v11, H10, q6.2.2 + 2)
theorem s73 (C : Calling) (L : Body → Body) (t : Tm) (H : Hp) (n : Nat) : bodyK Try.prog C L Try.f73 t H n = S73 C L t H n := by kernel_rfl
theorem c73 (args : List Value) (H : Hp) (n : Nat) : Call Try.prog 73 args H n = S73 (Call Try.prog) Loop (argsT args) H n := (Call_body Try.func73 args H n).trans (s73 ..)
/-! 74: spec.l7Keep -/
noncomputable def S74L0 (C : Calling) (L : Body → Body) : Body := fun t H n =>
  (lenV false (t 1)).bind fun v13 =>
  (binK .plain .lss (t 9) v13).bind fun v14 =>
  csel v14
    ((idxA 1 (t 1) (t 9)).bind fun v15 =>
     (ld false 1 v15 H).bind fun v16 =>
     (idxA 1 (t 7) v16).bind fun v17 =>
     (ld false 1 v17 H).bind fun v18 =>
     (bsl (n + 12) 1 1 [.int .i64 0] [(0, 1, v18)] H).bind fun p19 =>
     (app (n + 13) 1 8 (t 8) p19.1 p19.2).bind fun p20 =>
     (binK .plain .add (t 9) (.int .i64 1)).bind fun v21 =>
     some ⟨.normal, put (put (put (put (put (put (put (put (put (put (put (put (put (put (put (put (put (put t 17 (t 9)) 18 (t 1)) 19 v13) 20 v14) 23 (t 8)) 24 (t 7)) 25 (t 1)) 26 (t 9)) 27 v15) 28 v16) 29 v17) 30 v18) 31 p19.1) 32 p20.1) 8 p20.1) 21 (t 9)) 22 v21) 9 v21, p20.2, n + 18⟩)
    (some ⟨(.exit 0), put (put (put (put t 17 (t 9)) 18 (t 1)) 19 v13) 20 v14, H, n + 4⟩)
noncomputable def S74 (C : Calling) (L : Body → Body) (t : Tm) (H : Hp) (n : Nat) : Option (Value × Hp × Nat) :=
  (vcells (t 0)).bind fun c2 =>
  let H1 := H.set (n) (some (.row c2 0 true))
  let H3 := H1.set (n + 1) (some (.row [nilS] 0 true))
  (bld [nilS] []).bind fun v4 =>
  let H5 := H3.set (n + 4) (some (.row [nilS] 0 true))
  (st true 1 (ptr (n + 4) 0) v4 H5).bind fun H6 =>
  (ld true 1 (ptr (n) 0) H6).bind fun v7 =>
  (ld true 1 (ptr (n) 0) H6).bind fun v8 =>
  (C 109 [v8, t 1] H6 (n + 12)).bind fun q9 =>
  ask (ld true 1 (ptr (n) 0) q9.2.1 = some v7) <|
  (C 108 [ptr (n + 4) 0, v7, q9.1] q9.2.1 (q9.2.2)).bind fun q10 =>
  (bsl (q10.2.2) 1 0 [.int .i64 0] [] q10.2.1).bind fun p11 =>
  (L (S74L0 C L) (put (put (put (put (put (put (put (put (put (put (put (put (put (put t 2 (ptr (n) 0)) 4 (ptr (n + 1) 0)) 5 nilS) 10 v4) 6 (ptr (n + 4) 0)) 11 v7) 12 v8) 13 (t 1)) 14 q9.1) 15 q10.1) 7 q10.1) 16 p11.1) 8 p11.1) 9 (.int .i64 0)) p11.2 (q10.2.2 + 3)).bind fun (o12 : Out) =>
  (ld true 1 (o12.t 6) o12.H).bind fun v22 =>
  (st true 1 (o12.t 4) v22 o12.H).bind fun H23 =>
  (ld true 1 (o12.t 4) H23).bind fun v24 =>
  iteK ([v24, o12.t 8].all notTup) <|
  some (.tuple ⟨[v24, o12.t 8]⟩, H23, o12.n + 4)
theorem s74 (C : Calling) (L : Body → Body) (t : Tm) (H : Hp) (n : Nat) : bodyK Try.prog C L Try.f74 t H n = S74 C L t H n := by kernel_rfl
theorem c74 (args : List Value) (H : Hp) (n : Nat) : Call Try.prog 74 args H n = S74 (Call Try.prog) Loop (argsT args) H n := (Call_body Try.func74 args H n).trans (s74 ..)
/-! 75: impl.rootsOk -/
noncomputable def S75 (C : Calling) (L : Body → Body) (t : Tm) (H : Hp) (n : Nat) : Option (Value × Hp × Nat) :=
  (vcells (t 0)).bind fun c2 =>
  let H1 := H.set (n) (some (.row c2 0 true))
  (ld true 1 (ptr (n) 0) H1).bind fun v3 =>
  (C 18 [v3] H1 (n + 11)).bind fun q4 =>
  let t6 : Tm := put (put (put (put (put t 2 (ptr (n) 0)) 4 (.bool false)) 5 v3) 6 q4.1) 7 q4.1
  (gsel q4.1 true
    (iteK ([ptr (n) 0].all ptrV) <|
     (C 63 [t6 1, .func (.func 110) #[] ⟨[ptr (n) 0]⟩] q4.2.1 (q4.2.2)).bind fun q7 =>
     (un .not q7.1).bind fun v8 =>
     some (put (put (put (put t6 8 (t6 1)) 9 (.func (.func 110) #[] ⟨[ptr (n) 0]⟩)) 10 q7.1) 11 v8, q7.2.1, q7.2.2))
    (some (put (put (put (put t6 8 (.tuple #[])) 9 (.tuple #[])) 10 (.tuple #[])) 11 (.tuple #[]), q4.2.1, q4.2.2))
  ).bind fun (q5 : R3) =>
  (pickV (q5.1 7) (q5.1 11) (.bool false)).bind fun v9 =>
  some (v9, q5.2.1, q5.2.2)
theorem s75 (C : Calling) (L : Body → Body) (t : Tm) (H : Hp) (n : Nat) : bodyK Try.prog C L Try.f75 t H n = S75 C L t H n := by kernel_rfl
theorem c75 (args : List Value) (H : Hp) (n : Nat) : Call Try.prog 75 args H n = S75 (Call Try.prog) Loop (argsT args) H n := (Call_body Try.func75 args H n).trans (s75 ..)
/-! 76: impl.copyMachine -/
noncomputable def S76 (C : Calling) (L : Body → Body) (t : Tm) (H : Hp) (n : Nat) : Option (Value × Hp × Nat) :=
  (vcells (t 0)).bind fun c2 =>
  let H1 := H.set (n) (some (.row c2 0 true))
  let H3 := H1.set (n + 1) (some (.row [nilS, .int .i64 0, .int .i64 0, .int .i64 0, .int .i64 0, .int .i64 0, .int .i64 0, .int .i64 0] 0 true))
  (fieldA 0 (ptr (n) 0)).bind fun v4 =>
  (ld true 1 v4 H3).bind fun v5 =>
  (C 66 [v5] H3 (n + 7)).bind fun q6 =>
  (fieldA 0 (ptr (n) 0)).bind fun v7 =>
  (st true 1 v7 q6.1 q6.2.1).bind fun H8 =>
  (ld true 8 (ptr (n) 0) H8).bind fun v9 =>
  (st true 8 (ptr (n + 1) 0) v9 H8).bind fun H10 =>
  (ld true 8 (ptr (n + 1) 0) H10).bind fun v11 =>
  some (v11, H10, q6.2.2 + 2)
theorem s76 (C : Calling) (L : Body → Body) (t : Tm) (H : Hp) (n : Nat) : bodyK Try.prog C L Try.f76 t H n = S76 C L t H n := by kernel_rfl
theorem c76 (args : List Value) (H : Hp) (n : Nat) : Call Try.prog 76 args H n = S76 (Call Try.prog) Loop (argsT args) H n := (Call_body Try.func76 args H n).trans (s76 ..)
/-! 77: impl.keep -/
noncomputable def S77L0 (C : Calling) (L : Body → Body) : Body := fun t H n =>
  (binK .plain .lss (t 18) (t 17)).bind fun v12 =>
  csel v12
    ((idxA 1 (t 16) (t 18)).bind fun v13 =>
     (ld false 1 v13 H).bind fun v14 =>
     (idxA 1 (t 7) v14).bind fun v15 =>
     (ld false 1 v15 H).bind fun v16 =>
     (bsl (n + 9) 1 1 [.int .i64 0] [(0, 1, v16)] H).bind fun p17 =>
     (app (n + 10) 1 8 (t 8) p17.1 p17.2).bind fun p18 =>
     (binK .plain .add (t 18) (.int .i64 1)).bind fun v19 =>
     some ⟨.normal, put (put (put (put (put (put (put (put (put (put (put (put (put (put t 19 v12) 20 v13) 21 v14) 10 v14) 22 (t 8)) 23 (t 7)) 24 v14) 25 v15) 26 v16) 27 p17.1) 28 p18.1) 8 p18.1) 29 v19) 18 v19, p18.2, n + 14⟩)
    (some ⟨(.exit 0), put t 19 v12, H, n + 1⟩)
noncomputable def S77 (C : Calling) (L : Body → Body) (t : Tm) (H : Hp) (n : Nat) : Option (Value × Hp × Nat) :=
  (vcells (t 0)).bind fun c2 =>
  let H1 := H.set (n) (some (.row c2 0 true))
  let H3 := H1.set (n + 1) (some (.row [nilS] 0 true))
  (bld [nilS] []).bind fun v4 =>
  let H5 := H3.set (n + 4) (some (.row [nilS] 0 true))
  (st true 1 (ptr (n + 4) 0) v4 H5).bind fun H6 =>
  (ld true 1 (ptr (n) 0) H6).bind fun v7 =>
  (C 111 [ptr (n + 4) 0, v7, t 1] H6 (n + 10)).bind fun q8 =>
  (bsl (q8.2.2) 1 0 [.int .i64 0] [] q8.2.1).bind fun p9 =>
  (lenV false (t 1)).bind fun v10 =>
  (L (S77L0 C L) (put (put (put (put (put (put (put (put (put (put (put (put (put (put t 2 (ptr (n) 0)) 4 (ptr (n + 1) 0)) 5 nilS) 11 v4) 6 (ptr (n + 4) 0)) 12 v7) 13 (t 1)) 14 q8.1) 7 q8.1) 15 p9.1) 8 p9.1) 16 (t 1)) 17 v10) 18 (.int .i64 0)) p9.2 (q8.2.2 + 5)).bind fun (o11 : Out) =>
  (ld true 1 (o11.t 6) o11.H).bind fun v20 =>
  (st true 1 (o11.t 4) v20 o11.H).bind fun H21 =>
  (ld true 1 (o11.t 4) H21).bind fun v22 =>
  iteK ([v22, o11.t 8].all notTup) <|
  some (.tuple ⟨[v22, o11.t 8]⟩, H21, o11.n + 4)
theorem s77 (C : Calling) (L : Body → Body) (t : Tm) (H : Hp) (n : Nat) : bodyK Try.prog C L Try.f77 t H n = S77 C L t H n := by kernel_rfl
theorem c77 (args : List Value) (H : Hp) (n : Nat) : Call Try.prog 77 args H n = S77 (Call Try.prog) Loop (argsT args) H n := (Call_body Try.func77 args H n).trans (s77 ..)
/-! 78: laws.szNodeS -/
noncomputable def S78L0 (C : Calling) (L : Body → Body) : Body := fun t H n =>
  (lenV false (t 0)).bind fun v5 =>
  (binK .plain .lss (t 5) v5).bind fun v6 =>
  csel v6
    ((idxA 5 (t 0) (t 5)).bind fun v7 =>
     (ld true 5 v7 H).bind fun v8 =>
     (C 112 [v8, t 1] H (n + 11)).bind fun q9 =>
     (binK .plain .lss q9.1 (.int .i64 0)).bind fun v10 =>
     csel v10
       (some ⟨.ret, put (put (put (put (put (put (put (put (put (put (put (put (put (put t 12 (t 5)) 13 (t 0)) 14 v5) 15 v6) 18 (t 0)) 19 (t 5)) 20 v7) 21 v8) 22 (t 1)) 23 q9.1) 1 q9.1) 24 q9.1) 25 v10) 4 (.int .i64 (-1)), q9.2.1, q9.2.2 + 3⟩)
       ((binK .plain .add (t 5) (.int .i64 1)).bind fun v11 =>
        some ⟨.normal, put (put (put (put (put (put (put (put (put (put (put (put (put (put (put (put t 12 (t 5)) 13 (t 0)) 14 v5) 15 v6) 18 (t 0)) 19 (t 5)) 20 v7) 21 v8) 22 (t 1)) 23 q9.1) 1 q9.1) 24 q9.1) 25 v10) 16 (t 5)) 17 v11) 5 v11, q9.2.1, q9.2.2 + 5⟩))
    (some ⟨(.exit 0), put (put (put (put t 12 (t 5)) 13 (t 0)) 14 v5) 15 v6, H, n + 4⟩)
noncomputable def S78 (C : Calling) (L : Body → Body) (t : Tm) (H : Hp) (n : Nat) : Option (Value × Hp × Nat) :=
  (lenV false (t 0)).bind fun v1 =>
  (binK .plain .sub (t 1) v1).bind fun v2 =>
  (binK .plain .lss v2 (.int .i64 0)).bind fun v3 =>
  csel v3
    (some (.int .i64 (-1), H, n + 9))
    ((L (S78L0 C L) (put (put (put (put (put (put (put (put (put t 4 (.int .i64 0)) 6 (t 1)) 7 (t 0)) 8 v1) 9 v2) 1 v2) 10 v2) 11 v3) 5 (.int .i64 0)) H (n + 9)).bind fun (o4 : Out) =>
     let o12 := outOf 0 o4
     thenK o12
       (some (o12.t 1, o12.H, o12.n + 2))
       (finE o12.e
          (some (o12.t 4, o12.H, o12.n))))
theorem s78 (C : Calling) (L : Body → Body) (t : Tm) (H : Hp) (n : Nat) : bodyK Try.prog C L Try.f78 t H n = S78 C L t H n := by kernel_rfl
theorem c78 (args : List Value) (H : Hp) (n : Nat) : Call Try.prog 78 args H n = S78 (Call Try.prog) Loop (argsT args) H n := (Call_body Try.func78 args H n).trans (s78 ..)
/-! 79: laws.toNodeS -/
noncomputable def S79L0 (C : Calling) (L : Body → Body) : Body := fun t H n =>
  (lenV false (t 0)).bind fun v4 =>
  (binK .plain .lss (t 4) v4).bind fun v5 =>
  csel v5
    ((idxA 5 (t 0) (t 4)).bind fun v6 =>
     (ld true 5 v6 H).bind fun v7 =>
     (C 113 [v7] H (n + 13)).bind fun q8 =>
     (idxA 5 (t 3) (t 4)).bind fun v9 =>
     (st true 5 v9 q8.1 q8.2.1).bind fun H10 =>
     (binK .plain .add (t 4) (.int .i64 1)).bind fun v11 =>
     some ⟨.normal, put (put (put (put (put (put (put (put (put (put (put (put (put (put (put t 8 (t 4)) 9 (t 0)) 10 v4) 11 v5) 14 (t 3)) 15 (t 4)) 16 (t 0)) 17 (t 4)) 18 v6) 19 v7) 20 q8.1) 21 v9) 12 (t 4)) 13 v11) 4 v11, H10, q8.2.2 + 3⟩)
    (some ⟨(.exit 0), put (put (put (put t 8 (t 4)) 9 (t 0)) 10 v4) 11 v5, H, n + 4⟩)
noncomputable def S79 (C : Calling) (L : Body → Body) (t : Tm) (H : Hp) (n : Nat) : Option (Value × Hp × Nat) :=
  (lenV false (t 0)).bind fun v1 =>
  (mks (n + 3) 5 48 [.int .i64 0, .int .i64 0, .string ⟨#[]⟩, .int .i64 0, .int .i64 0] v1 v1 H).bind fun p2 =>
  (L (S79L0 C L) (put (put (put (put (put (put t 2 nilS) 5 (t 0)) 6 v1) 7 p2.1) 3 p2.1) 4 (.int .i64 0)) p2.2 (n + 6)).bind fun (o3 : Out) =>
  some (o3.t 3, o3.H, o3.n + 2)
theorem s79 (C : Calling) (L : Body → Body) (t : Tm) (H : Hp) (n : Nat) : bodyK Try.prog C L Try.f79 t H n = S79 C L t H n := by kernel_rfl
theorem c79 (args : List Value) (H : Hp) (n : Nat) : Call Try.prog 79 args H n = S79 (Call Try.prog) Loop (argsT args) H n := (Call_body Try.func79 args H n).trans (s79 ..)
/-! 80: laws.eqNodeS -/
noncomputable def S80L0 (C : Calling) (L : Body → Body) : Body := fun t H n =>
  (lenV false (t 0)).bind fun v5 =>
  (binK .plain .lss (t 5) v5).bind fun v6 =>
  csel v6
    ((idxA 5 (t 0) (t 5)).bind fun v7 =>
     (ld true 5 v7 H).bind fun v8 =>
     (idxA 5 (t 1) (t 5)).bind fun v9 =>
     (ld true 5 v9 H).bind fun v10 =>
     (C 114 [v8, v10] H (n + 14)).bind fun q11 =>
     (un .not q11.1).bind fun v12 =>
     csel v12
       (some ⟨.ret, put (put (put (put (put (put (put (put (put (put (put (put (put (put (put t 11 (t 5)) 12 (t 0)) 13 v5) 14 v6) 17 (t 0)) 18 (t 5)) 19 v7) 20 v8) 21 (t 1)) 22 (t 5)) 23 v9) 24 v10) 25 q11.1) 26 v12) 4 (.bool false), q11.2.1, q11.2.2 + 1⟩)
       ((binK .plain .add (t 5) (.int .i64 1)).bind fun v13 =>
        some ⟨.normal, put (put (put (put (put (put (put (put (put (put (put (put (put (put (put (put (put t 11 (t 5)) 12 (t 0)) 13 v5) 14 v6) 17 (t 0)) 18 (t 5)) 19 v7) 20 v8) 21 (t 1)) 22 (t 5)) 23 v9) 24 v10) 25 q11.1) 26 v12) 15 (t 5)) 16 v13) 5 v13, q11.2.1, q11.2.2 + 3⟩))
    (some ⟨(.exit 0), put (put (put (put t 11 (t 5)) 12 (t 0)) 13 v5) 14 v6, H, n + 4⟩)
noncomputable def S80 (C : Calling) (L : Body → Body) (t : Tm) (H : Hp) (n : Nat) : Option (Value × Hp × Nat) :=
  (lenV false (t 0)).bind fun v1 =>
  (lenV false (t 1)).bind fun v2 =>
  (binK .plain .neq v1 v2).bind fun v3 =>
  csel v3
    (some (.bool false, H, n + 7))
    ((L (S80L0 C L) (put (put (put (put (put (put (put t 4 (.bool false)) 6 (t 0)) 7 v1) 8 (t 1)) 9 v2) 10 v3) 5 (.int .i64 0)) H (n + 7)).bind fun (o4 : Out) =>
     let o14 := outOf 0 o4
     thenK o14
       (some (.bool true, o14.H, o14.n + 1))
       (finE o14.e
          (some (o14.t 4, o14.H, o14.n))))
theorem s80 (C : Calling) (L : Body → Body) (t : Tm) (H : Hp) (n : Nat) : bodyK Try.prog C L Try.f80 t H n = S80 C L t H n := by kernel_rfl
theorem c80 (args : List Value) (H : Hp) (n : Nat) : Call Try.prog 80 args H n = S80 (Call Try.prog) Loop (argsT args) H n := (Call_body Try.func80 args H n).trans (s80 ..)
/-! 81: laws.markNodeS -/
noncomputable def S81L0 (C : Calling) (L : Body → Body) : Body := fun t H n =>
  (lenV false (t 0)).bind fun v2 =>
  (binK .plain .lss (t 5) v2).bind fun v3 =>
  csel v3
    ((idxA 5 (t 0) (t 5)).bind fun v4 =>
     (fieldA 0 v4).bind fun v5 =>
     (st false 1 v5 (t 1) H).bind fun H6 =>
     (binK .plain .add (t 1) (.int .i64 1)).bind fun v7 =>
     (idxA 5 (t 0) (t 5)).bind fun v8 =>
     (fieldA 1 v8).bind fun v9 =>
     (st false 1 v9 v7 H6).bind fun H10 =>
     (binK .plain .add v7 (.int .i64 1)).bind fun v11 =>
     (C 115 [v11] H10 (n + 29)).bind fun q12 =>
     (idxA 5 (t 0) (t 5)).bind fun v13 =>
     (fieldA 2 v13).bind fun v14 =>
     (st false 1 v14 q12.1 q12.2.1).bind fun H15 =>
     (binK .plain .add v11 (.int .i64 1)).bind fun v16 =>
     (idxA 5 (t 0) (t 5)).bind fun v17 =>
     (fieldA 3 v17).bind fun v18 =>
     (st false 1 v18 v16 H15).bind fun H19 =>
     (binK .plain .add v16 (.int .i64 1)).bind fun v20 =>
     (idxA 5 (t 0) (t 5)).bind fun v21 =>
     (fieldA 4 v21).bind fun v22 =>
     (st false 1 v22 v20 H19).bind fun H23 =>
     (binK .plain .add v20 (.int .i64 1)).bind fun v24 =>
     (binK .plain .add (t 5) (.int .i64 1)).bind fun v25 =>
     some ⟨.normal, put (put (put (put (put (put (put (put (put (put (put (put (put (put (put (put (put (put (put (put (put (put (put (put (put (put (put (put (put (put (put (put (put (put (put (put (put (put (put (put (put (put (put (put (put (put (put (put t 6 (t 5)) 7 (t 0)) 8 v2) 9 v3) 12 (t 0)) 13 (t 5)) 14 (t 1)) 15 v4) 16 v5) 17 (t 1)) 18 v7) 1 v7) 19 (t 0)) 20 (t 5)) 21 v7) 22 v8) 23 v9) 24 v7) 25 v11) 1 v11) 26 (t 0)) 27 (t 5)) 28 v11) 29 q12.1) 30 v13) 31 v14) 32 v11) 33 v16) 1 v16) 34 (t 0)) 35 (t 5)) 36 v16) 37 v17) 38 v18) 39 v16) 40 v20) 1 v20) 41 (t 0)) 42 (t 5)) 43 v20) 44 v21) 45 v22) 46 v20) 47 v24) 1 v24) 10 (t 5)) 11 v25) 5 v25, H23, q12.2.2 + 24⟩)
    (some ⟨(.exit 0), put (put (put (put t 6 (t 5)) 7 (t 0)) 8 v2) 9 v3, H, n + 4⟩)
noncomputable def S81 (C : Calling) (L : Body → Body) (t : Tm) (H : Hp) (n : Nat) : Option (Value × Hp × Nat) :=
  (L (S81L0 C L) (put (put t 4 (.int .i64 0)) 5 (.int .i64 0)) H (n + 2)).bind fun (o1 : Out) =>
  some (o1.t 1, o1.H, o1.n + 2)
theorem s81 (C : Calling) (L : Body → Body) (t : Tm) (H : Hp) (n : Nat) : bodyK Try.prog C L Try.f81 t H n = S81 C L t H n := by kernel_rfl
theorem c81 (args : List Value) (H : Hp) (n : Nat) : Call Try.prog 81 args H n = S81 (Call Try.prog) Loop (argsT args) H n := (Call_body Try.func81 args H n).trans (s81 ..)
/-! 82: laws.heldNodeS -/
noncomputable def S82L0 (C : Calling) (L : Body → Body) : Body := fun t H n =>
  (lenV false (t 0)).bind fun v2 =>
  (binK .plain .lss (t 5) v2).bind fun v3 =>
  csel v3
    ((idxA 5 (t 0) (t 5)).bind fun v4 =>
     (fieldA 0 v4).bind fun v5 =>
     (ld false 1 v5 H).bind fun v6 =>
     (binK .plain .neq v6 (t 1)).bind fun v7 =>
     csel v7
       (some ⟨.ret, put (put (put (put (put (put (put (put (put (put (put (put t 6 (t 5)) 7 (t 0)) 8 v2) 9 v3) 12 (t 0)) 13 (t 5)) 14 v4) 15 v5) 16 v6) 17 (t 1)) 18 v7) 4 (.int .i64 (-1)), H, n + 12⟩)
       ((binK .plain .add (t 1) (.int .i64 1)).bind fun v8 =>
        (idxA 5 (t 0) (t 5)).bind fun v9 =>
        (fieldA 1 v9).bind fun v10 =>
        (ld false 1 v10 H).bind fun v11 =>
        (binK .plain .neq v11 v8).bind fun v12 =>
        csel v12
          (some ⟨.ret, put (put (put (put (put (put (put (put (put (put (put (put (put (put (put (put (put (put (put (put (put (put t 6 (t 5)) 7 (t 0)) 8 v2) 9 v3) 12 (t 0)) 13 (t 5)) 14 v4) 15 v5) 16 v6) 17 (t 1)) 18 v7) 19 (t 1)) 20 v8) 1 v8) 21 (t 0)) 22 (t 5)) 23 v9) 24 v10) 25 v11) 26 v8) 27 v12) 4 (.int .i64 (-1)), H, n + 22⟩)
          ((binK .plain .add v8 (.int .i64 1)).bind fun v13 =>
           (idxA 5 (t 0) (t 5)).bind fun v14 =>
           (fieldA 2 v14).bind fun v15 =>
           (ld false 1 v15 H).bind fun v16 =>
           (C 115 [v13] H (n + 32)).bind fun q17 =>
           ask (ld false 1 v15 q17.2.1 = some v16) <|
           (binK .plain .neq v16 q17.1).bind fun v18 =>
           csel v18
             (some ⟨.ret, put (put (put (put (put (put (put (put (put (put (put (put (put (put (put (put (put (put (put (put (put (put (put (put (put (put (put (put (put (put (put (put (put t 6 (t 5)) 7 (t 0)) 8 v2) 9 v3) 12 (t 0)) 13 (t 5)) 14 v4) 15 v5) 16 v6) 17 (t 1)) 18 v7) 19 (t 1)) 20 v8) 1 v8) 21 (t 0)) 22 (t 5)) 23 v9) 24 v10) 25 v11) 26 v8) 27 v12) 28 v8) 29 v13) 1 v13) 30 (t 0)) 31 (t 5)) 32 v14) 33 v15) 34 v16) 35 v13) 36 q17.1) 37 v18) 4 (.int .i64 (-1)), q17.2.1, q17.2.2 + 1⟩)
             ((binK .plain .add v13 (.int .i64 1)).bind fun v19 =>
              (idxA 5 (t 0) (t 5)).bind fun v20 =>
              (fieldA 3 v20).bind fun v21 =>
              (ld false 1 v21 q17.2.1).bind fun v22 =>
              (binK .plain .neq v22 v19).bind fun v23 =>
              csel v23
                (some ⟨.ret, put (put (put (put (put (put (put (put (put (put (put (put (put (put (put (put (put (put (put (put (put (put (put (put (put (put (put (put (put (put (put (put (put (put (put (put (put (put (put (put (put (put (put t 6 (t 5)) 7 (t 0)) 8 v2) 9 v3) 12 (t 0)) 13 (t 5)) 14 v4) 15 v5) 16 v6) 17 (t 1)) 18 v7) 19 (t 1)) 20 v8) 1 v8) 21 (t 0)) 22 (t 5)) 23 v9) 24 v10) 25 v11) 26 v8) 27 v12) 28 v8) 29 v13) 1 v13) 30 (t 0)) 31 (t 5)) 32 v14) 33 v15) 34 v16) 35 v13) 36 q17.1) 37 v18) 38 v13) 39 v19) 1 v19) 40 (t 0)) 41 (t 5)) 42 v20) 43 v21) 44 v22) 45 v19) 46 v23) 4 (.int .i64 (-1)), q17.2.1, q17.2.2 + 11⟩)
                ((binK .plain .add v19 (.int .i64 1)).bind fun v24 =>
                 (idxA 5 (t 0) (t 5)).bind fun v25 =>
                 (fieldA 4 v25).bind fun v26 =>
                 (ld false 1 v26 q17.2.1).bind fun v27 =>
                 (binK .plain .neq v27 v24).bind fun v28 =>
                 csel v28
                   (some ⟨.ret, put (put (put (put (put (put (put (put (put (put (put (put (put (put (put (put (put (put (put (put (put (put (put (put (put (put (put (put (put (put (put (put (put (put (put (put (put (put (put (put (put (put (put (put (put (put (put (put (put (put (put (put (put t 6 (t 5)) 7 (t 0)) 8 v2) 9 v3) 12 (t 0)) 13 (t 5)) 14 v4) 15 v5) 16 v6) 17 (t 1)) 18 v7) 19 (t 1)) 20 v8) 1 v8) 21 (t 0)) 22 (t 5)) 23 v9) 24 v10) 25 v11) 26 v8) 27 v12) 28 v8) 29 v13) 1 v13) 30 (t 0)) 31 (t 5)) 32 v14) 33 v15) 34 v16) 35 v13) 36 q17.1) 37 v18) 38 v13) 39 v19) 1 v19) 40 (t 0)) 41 (t 5)) 42 v20) 43 v21) 44 v22) 45 v19) 46 v23) 47 v19) 48 v24) 1 v24) 49 (t 0)) 50 (t 5)) 51 v25) 52 v26) 53 v27) 54 v24) 55 v28) 4 (.int .i64 (-1)), q17.2.1, q17.2.2 + 21⟩)
                   ((binK .plain .add v24 (.int .i64 1)).bind fun v29 =>
                    (binK .plain .add (t 5) (.int .i64 1)).bind fun v30 =>
                    some ⟨.normal, put (put (put (put (put (put (put (put (put (put (put (put (put (put (put (put (put (put (put (put (put (put (put (put (put (put (put (put (put (put (put (put (put (put (put (put (put (put (put (put (put (put (put (put (put (put (put (put (put (put (put (put (put (put (put (put (put (put t 6 (t 5)) 7 (t 0)) 8 v2) 9 v3) 12 (t 0)) 13 (t 5)) 14 v4) 15 v5) 16 v6) 17 (t 1)) 18 v7) 19 (t 1)) 20 v8) 1 v8) 21 (t 0)) 22 (t 5)) 23 v9) 24 v10) 25 v11) 26 v8) 27 v12) 28 v8) 29 v13) 1 v13) 30 (t 0)) 31 (t 5)) 32 v14) 33 v15) 34 v16) 35 v13) 36 q17.1) 37 v18) 38 v13) 39 v19) 1 v19) 40 (t 0)) 41 (t 5)) 42 v20) 43 v21) 44 v22) 45 v19) 46 v23) 47 v19) 48 v24) 1 v24) 49 (t 0)) 50 (t 5)) 51 v25) 52 v26) 53 v27) 54 v24) 55 v28) 56 v24) 57 v29) 1 v29) 10 (t 5)) 11 v30) 5 v30, q17.2.1, q17.2.2 + 26⟩))))))
    (some ⟨(.exit 0), put (put (put (put t 6 (t 5)) 7 (t 0)) 8 v2) 9 v3, H, n + 4⟩)
noncomputable def S82 (C : Calling) (L : Body → Body) (t : Tm) (H : Hp) (n : Nat) : Option (Value × Hp × Nat) :=
  (L (S82L0 C L) (put (put t 4 (.int .i64 0)) 5 (.int .i64 0)) H (n + 2)).bind fun (o1 : Out) =>
  let o31 := outOf 0 o1
  thenK o31
    (some (o31.t 1, o31.H, o31.n + 2))
    (finE o31.e
       (some (o31.t 4, o31.H, o31.n)))
theorem s82 (C : Calling) (L : Body → Body) (t : Tm) (H : Hp) (n : Nat) : bodyK Try.prog C L Try.f82 t H n = S82 C L t H n := by kernel_rfl
theorem c82 (args : List Value) (H : Hp) (n : Nat) : Call Try.prog 82 args H n = S82 (Call Try.prog) Loop (argsT args) H n := (Call_body Try.func82 args H n).trans (s82 ..)
/-! 83: impl.isPlace -/
noncomputable def S83 (C : Calling) (L : Body → Body) (t : Tm) (H : Hp) (n : Nat) : Option (Value × Hp × Nat) :=
  (vcells (t 0)).bind fun c2 =>
  let H1 := H.set (n) (some (.row c2 0 true))
  (fieldA 1 (ptr (n) 0)).bind fun v3 =>
  (ld false 1 v3 H1).bind fun v4 =>
  (lenV false v4).bind fun v5 =>
  (binK .plain .sub v5 (.int .i64 1)).bind fun v6 =>
  (C 51 [t 1, .int .i64 0, v6] H1 (n + 9)).bind fun q7 =>
  some (q7.1, q7.2.1, q7.2.2)
theorem s83 (C : Calling) (L : Body → Body) (t : Tm) (H : Hp) (n : Nat) : bodyK Try.prog C L Try.f83 t H n = S83 C L t H n := by kernel_rfl
theorem c83 (args : List Value) (H : Hp) (n : Nat) : Call Try.prog 83 args H n = S83 (Call Try.prog) Loop (argsT args) H n := (Call_body Try.func83 args H n).trans (s83 ..)
/-! 84: laws.markInstrS -/
noncomputable def S84L0 (C : Calling) (L : Body → Body) : Body := fun t H n =>
  (lenV false (t 0)).bind fun v2 =>
  (binK .plain .lss (t 5) v2).bind fun v3 =>
  csel v3
    ((idxA 4 (t 0) (t 5)).bind fun v4 =>
     (fieldA 0 v4).bind fun v5 =>
     (st false 1 v5 (t 1) H).bind fun H6 =>
     (binK .plain .add (t 1) (.int .i64 1)).bind fun v7 =>
     (idxA 4 (t 0) (t 5)).bind fun v8 =>
     (fieldA 1 v8).bind fun v9 =>
     (st false 1 v9 v7 H6).bind fun H10 =>
     (binK .plain .add v7 (.int .i64 1)).bind fun v11 =>
     (idxA 4 (t 0) (t 5)).bind fun v12 =>
     (fieldA 2 v12).bind fun v13 =>
     (st false 1 v13 v11 H10).bind fun H14 =>
     (binK .plain .add v11 (.int .i64 1)).bind fun v15 =>
     (C 115 [v15] H14 (n + 38)).bind fun q16 =>
     (idxA 4 (t 0) (t 5)).bind fun v17 =>
     (fieldA 3 v17).bind fun v18 =>
     (st false 1 v18 q16.1 q16.2.1).bind fun H19 =>
     (binK .plain .add v15 (.int .i64 1)).bind fun v20 =>
     (binK .plain .add (t 5) (.int .i64 1)).bind fun v21 =>
     some ⟨.normal, put (put (put (put (put (put (put (put (put (put (put (put (put (put (put (put (put (put (put (put (put (put (put (put (put (put (put (put (put (put (put (put (put (put (put (put (put (put (put (put t 6 (t 5)) 7 (t 0)) 8 v2) 9 v3) 12 (t 0)) 13 (t 5)) 14 (t 1)) 15 v4) 16 v5) 17 (t 1)) 18 v7) 1 v7) 19 (t 0)) 20 (t 5)) 21 v7) 22 v8) 23 v9) 24 v7) 25 v11) 1 v11) 26 (t 0)) 27 (t 5)) 28 v11) 29 v12) 30 v13) 31 v11) 32 v15) 1 v15) 33 (t 0)) 34 (t 5)) 35 v15) 36 q16.1) 37 v17) 38 v18) 39 v15) 40 v20) 1 v20) 10 (t 5)) 11 v21) 5 v21, H19, q16.2.2 + 6⟩)
    (some ⟨(.exit 0), put (put (put (put t 6 (t 5)) 7 (t 0)) 8 v2) 9 v3, H, n + 4⟩)
noncomputable def S84 (C : Calling) (L : Body → Body) (t : Tm) (H : Hp) (n : Nat) : Option (Value × Hp × Nat) :=
  (L (S84L0 C L) (put (put t 4 (.int .i64 0)) 5 (.int .i64 0)) H (n + 2)).bind fun (o1 : Out) =>
  some (o1.t 1, o1.H, o1.n + 2)
theorem s84 (C : Calling) (L : Body → Body) (t : Tm) (H : Hp) (n : Nat) : bodyK Try.prog C L Try.f84 t H n = S84 C L t H n := by kernel_rfl
theorem c84 (args : List Value) (H : Hp) (n : Nat) : Call Try.prog 84 args H n = S84 (Call Try.prog) Loop (argsT args) H n := (Call_body Try.func84 args H n).trans (s84 ..)
/-! 85: laws.markDefS -/
noncomputable def S85L0 (C : Calling) (L : Body → Body) : Body := fun t H n =>
  (lenV false (t 0)).bind fun v2 =>
  (binK .plain .lss (t 5) v2).bind fun v3 =>
  csel v3
    ((C 115 [t 1] H (n + 11)).bind fun q4 =>
     (idxA 3 (t 0) (t 5)).bind fun v5 =>
     (fieldA 0 v5).bind fun v6 =>
     (st false 1 v6 q4.1 q4.2.1).bind fun H7 =>
     (binK .plain .add (t 1) (.int .i64 1)).bind fun v8 =>
     (idxA 3 (t 0) (t 5)).bind fun v9 =>
     (fieldA 1 v9).bind fun v10 =>
     (st false 1 v10 v8 H7).bind fun H11 =>
     (binK .plain .add v8 (.int .i64 1)).bind fun v12 =>
     (idxA 3 (t 0) (t 5)).bind fun v13 =>
     (fieldA 2 v13).bind fun v14 =>
     (st false 1 v14 v12 H11).bind fun H15 =>
     (binK .plain .add v12 (.int .i64 1)).bind fun v16 =>
     (binK .plain .add (t 5) (.int .i64 1)).bind fun v17 =>
     some ⟨.normal, put (put (put (put (put (put (put (put (put (put (put (put (put (put (put (put (put (put (put (put (put (put (put (put (put (put (put (put (put (put (put (put t 6 (t 5)) 7 (t 0)) 8 v2) 9 v3) 12 (t 0)) 13 (t 5)) 14 (t 1)) 15 q4.1) 16 v5) 17 v6) 18 (t 1)) 19 v8) 1 v8) 20 (t 0)) 21 (t 5)) 22 v8) 23 v9) 24 v10) 25 v8) 26 v12) 1 v12) 27 (t 0)) 28 (t 5)) 29 v12) 30 v13) 31 v14) 32 v12) 33 v16) 1 v16) 10 (t 5)) 11 v17) 5 v17, H15, q4.2.2 + 24⟩)
    (some ⟨(.exit 0), put (put (put (put t 6 (t 5)) 7 (t 0)) 8 v2) 9 v3, H, n + 4⟩)
noncomputable def S85 (C : Calling) (L : Body → Body) (t : Tm) (H : Hp) (n : Nat) : Option (Value × Hp × Nat) :=
  (L (S85L0 C L) (put (put t 4 (.int .i64 0)) 5 (.int .i64 0)) H (n + 2)).bind fun (o1 : Out) =>
  some (o1.t 1, o1.H, o1.n + 2)
theorem s85 (C : Calling) (L : Body → Body) (t : Tm) (H : Hp) (n : Nat) : bodyK Try.prog C L Try.f85 t H n = S85 C L t H n := by kernel_rfl
theorem c85 (args : List Value) (H : Hp) (n : Nat) : Call Try.prog 85 args H n = S85 (Call Try.prog) Loop (argsT args) H n := (Call_body Try.func85 args H n).trans (s85 ..)
/-! 86: laws.szInstr -/
noncomputable def S86 (C : Calling) (L : Body → Body) (t : Tm) (H : Hp) (n : Nat) : Option (Value × Hp × Nat) :=
  (vcells (t 0)).bind fun c2 =>
  let H1 := H.set (n) (some (.row c2 0 true))
  (fieldA 3 (ptr (n) 0)).bind fun v3 =>
  (ld false 1 v3 H1).bind fun v4 =>
  (lenV true v4).bind fun v5 =>
  (binK .plain .sub (t 1) v5).bind fun v6 =>
  (binK .plain .lss v6 (.int .i64 0)).bind fun v7 =>
  csel v7
    (some (.int .i64 (-1), H1, n + 11))
    (some (v6, H1, n + 12))
theorem s86 (C : Calling) (L : Body → Body) (t : Tm) (H : Hp) (n : Nat) : bodyK Try.prog C L Try.f86 t H n = S86 C L t H n := by kernel_rfl
theorem c86 (args : List Value) (H : Hp) (n : Nat) : Call Try.prog 86 args H n = S86 (Call Try.prog) Loop (argsT args) H n := (Call_body Try.func86 args H n).trans (s86 ..)
/-! 87: laws.szDef -/
noncomputable def S87 (C : Calling) (L : Body → Body) (t : Tm) (H : Hp) (n : Nat) : Option (Value × Hp × Nat) :=
  (vcells (t 0)).bind fun c2 =>
  let H1 := H.set (n) (some (.row c2 0 true))
  (fieldA 0 (ptr (n) 0)).bind fun v3 =>
  (ld false 1 v3 H1).bind fun v4 =>
  (lenV true v4).bind fun v5 =>
  (binK .plain .sub (t 1) v5).bind fun v6 =>
  (binK .plain .lss v6 (.int .i64 0)).bind fun v7 =>
  csel v7
    (some (.int .i64 (-1), H1, n + 11))
    (some (v6, H1, n + 12))
theorem s87 (C : Calling) (L : Body → Body) (t : Tm) (H : Hp) (n : Nat) : bodyK Try.prog C L Try.f87 t H n = S87 C L t H n := by kernel_rfl
theorem c87 (args : List Value) (H : Hp) (n : Nat) : Call Try.prog 87 args H n = S87 (Call Try.prog) Loop (argsT args) H n := (Call_body Try.func87 args H n).trans (s87 ..)
/-! 88: spec.l2Node -/
noncomputable def S88 (C : Calling) (L : Body → Body) (t : Tm) (H : Hp) (n : Nat) : Option (Value × Hp × Nat) :=
  (vcells (t 0)).bind fun c2 =>
  let H1 := H.set (n) (some (.row c2 0 true))
  (fieldA 3 (ptr (n) 0)).bind fun v3 =>
  (ld false 1 v3 H1).bind fun v4 =>
  (binK .plain .sub (t 1) (.int .i64 1)).bind fun v5 =>
  (C 45 [v4, .int .i64 0, v5] H1 (n + 8)).bind fun q6 =>
  (fieldA 4 (ptr (n) 0)).bind fun v7 =>
  (ld false 1 v7 q6.2.1).bind fun v8 =>
  (binK .plain .sub (t 1) (.int .i64 1)).bind fun v9 =>
  (C 45 [v8, .int .i64 0, v9] q6.2.1 (q6.2.2 + 6)).bind fun q10 =>
  (fieldA 0 (ptr (n) 0)).bind fun v11 =>
  (ld false 1 v11 q10.2.1).bind fun v12 =>
  (binK .plain .eql v12 (.int .i64 1)).bind fun v13 =>
  csel v13
    ((ld true 5 (ptr (n) 0) q10.2.1).bind fun v14 =>
     (bld [.int .i64 0, .int .i64 0, .string ⟨#[]⟩, .int .i64 0, .int .i64 0] [(0, 1, .int .i64 1)]).bind fun v15 =>
     (binK (.agg [(0, (.int .i64)), (1, (.int .i64)), (2, .string), (3, (.int .i64)), (4, (.int .i64))]) .eql v14 v15).bind fun v16 =>
     some (v16, q10.2.1, q10.2.2 + 8))
    ((binK .plain .eql v12 (.int .i64 2)).bind fun v17 =>
     csel v17
       ((fieldA 1 (ptr (n) 0)).bind fun v18 =>
        (ld false 1 v18 q10.2.1).bind fun v19 =>
        (C 45 [v19, .int .i64 0, .int .i64 1] q10.2.1 (q10.2.2 + 17)).bind fun q20 =>
        let t22 : Tm := put (put (put (put (put (put (put (put (put (put (put (put (put (put (put (put (put (put (put (put (put (put (put (put t 2 (ptr (n) 0)) 4 (.bool false)) 7 v3) 8 v4) 9 (t 1)) 10 v5) 11 q6.1) 5 q6.1) 12 v7) 13 v8) 14 (t 1)) 15 v9) 16 q10.1) 6 q10.1) 17 v11) 18 v12) 20 v13) 19 v13) 25 v17) 24 v17) 26 v18) 27 v19) 28 q20.1) 29 q20.1
        (gsel q20.1 true
          ((ld true 5 (ptr (n) 0) q20.2.1).bind fun v23 =>
           (fieldA 1 (ptr (n) 0)).bind fun v24 =>
           (ld false 1 v24 q20.2.1).bind fun v25 =>
           (bld [.int .i64 0, .int .i64 0, .string ⟨#[]⟩, .int .i64 0, .int .i64 0] [(0, 1, .int .i64 2), (1, 1, v25)]).bind fun v26 =>
           (binK (.agg [(0, (.int .i64)), (1, (.int .i64)), (2, .string), (3, (.int .i64)), (4, (.int .i64))]) .eql v23 v26).bind fun v27 =>
           some (put (put (put (put (put t22 30 v23) 31 v24) 32 v25) 33 v26) 34 v27, q20.2.1, q20.2.2))
          (some (put (put (put (put (put t22 30 (.tuple #[])) 31 (.tuple #[])) 32 (.tuple #[])) 33 (.tuple #[])) 34 (.tuple #[]), q20.2.1, q20.2.2))
        ).bind fun (q21 : R3) =>
        (pickV (q21.1 29) (q21.1 34) (.bool false)).bind fun v28 =>
        some (v28, q21.2.1, q21.2.2))
       ((binK .plain .eql v12 (.int .i64 3)).bind fun v29 =>
        csel v29
          ((fieldA 1 (ptr (n) 0)).bind fun v30 =>
           (ld false 1 v30 q10.2.1).bind fun v31 =>
           (C 45 [v31, .int .i64 (-1000000000), .int .i64 1000000000] q10.2.1 (q10.2.2 + 19)).bind fun q32 =>
           let t34 : Tm := put (put (put (put (put (put (put (put (put (put (put (put (put (put (put (put (put (put (put (put (put (put (put (put (put (put t 2 (ptr (n) 0)) 4 (.bool false)) 7 v3) 8 v4) 9 (t 1)) 10 v5) 11 q6.1) 5 q6.1) 12 v7) 13 v8) 14 (t 1)) 15 v9) 16 q10.1) 6 q10.1) 17 v11) 18 v12) 20 v13) 19 v13) 25 v17) 24 v17) 37 v29) 36 v29) 38 v30) 39 v31) 40 q32.1) 41 q32.1
           (gsel q32.1 true
             ((ld true 5 (ptr (n) 0) q32.2.1).bind fun v35 =>
              (fieldA 1 (ptr (n) 0)).bind fun v36 =>
              (ld false 1 v36 q32.2.1).bind fun v37 =>
              (bld [.int .i64 0, .int .i64 0, .string ⟨#[]⟩, .int .i64 0, .int .i64 0] [(0, 1, .int .i64 3), (1, 1, v37)]).bind fun v38 =>
              (binK (.agg [(0, (.int .i64)), (1, (.int .i64)), (2, .string), (3, (.int .i64)), (4, (.int .i64))]) .eql v35 v38).bind fun v39 =>
              some (put (put (put (put (put t34 42 v35) 43 v36) 44 v37) 45 v38) 46 v39, q32.2.1, q32.2.2))
             (some (put (put (put (put (put t34 42 (.tuple #[])) 43 (.tuple #[])) 44 (.tuple #[])) 45 (.tuple #[])) 46 (.tuple #[]), q32.2.1, q32.2.2))
           ).bind fun (q33 : R3) =>
           (pickV (q33.1 41) (q33.1 46) (.bool false)).bind fun v40 =>
           some (v40, q33.2.1, q33.2.2))
          ((binK .plain .eql v12 (.int .i64 4)).bind fun v41 =>
           csel v41
             ((fieldA 2 (ptr (n) 0)).bind fun v42 =>
              (ld false 1 v42 q10.2.1).bind fun v43 =>
              (C 43 [v43] q10.2.1 (q10.2.2 + 21)).bind fun q44 =>
              let t46 : Tm := put (put (put (put (put (put (put (put (put (put (put (put (put (put (put (put (put (put (put (put (put (put (put (put (put (put (put (put t 2 (ptr (n) 0)) 4 (.bool false)) 7 v3) 8 v4) 9 (t 1)) 10 v5) 11 q6.1) 5 q6.1) 12 v7) 13 v8) 14 (t 1)) 15 v9) 16 q10.1) 6 q10.1) 17 v11) 18 v12) 20 v13) 19 v13) 25 v17) 24 v17) 37 v29) 36 v29) 49 v41) 48 v41) 50 v42) 51 v43) 52 q44.1) 53 q44.1
              (gsel q44.1 true
                ((ld true 5 (ptr (n) 0) q44.2.1).bind fun v47 =>
                 (fieldA 2 (ptr (n) 0)).bind fun v48 =>
                 (ld false 1 v48 q44.2.1).bind fun v49 =>
                 (bld [.int .i64 0, .int .i64 0, .string ⟨#[]⟩, .int .i64 0, .int .i64 0] [(0, 1, .int .i64 4), (2, 1, v49)]).bind fun v50 =>
                 (binK (.agg [(0, (.int .i64)), (1, (.int .i64)), (2, .string), (3, (.int .i64)), (4, (.int .i64))]) .eql v47 v50).bind fun v51 =>
                 some (put (put (put (put (put t46 54 v47) 55 v48) 56 v49) 57 v50) 58 v51, q44.2.1, q44.2.2))
                (some (put (put (put (put (put t46 54 (.tuple #[])) 55 (.tuple #[])) 56 (.tuple #[])) 57 (.tuple #[])) 58 (.tuple #[]), q44.2.1, q44.2.2))
              ).bind fun (q45 : R3) =>
              (pickV (q45.1 53) (q45.1 58) (.bool false)).bind fun v52 =>
              some (v52, q45.2.1, q45.2.2))
             ((binK .plain .eql v12 (.int .i64 5)).bind fun v53 =>
              csel v53
                ((pickV q6.1 (gsel q6.1 true q10.1 (.tuple #[])) (.bool false)).bind fun v54 =>
                 let t56 : Tm := put (put (put (put (put (put (put (put (put (put (put (put (put (put (put (put (put (put (put (put (put (put (put (put (put (put (put (put (put (put (put t 2 (ptr (n) 0)) 4 (.bool false)) 7 v3) 8 v4) 9 (t 1)) 10 v5) 11 q6.1) 5 q6.1) 12 v7) 13 v8) 14 (t 1)) 15 v9) 16 q10.1) 6 q10.1) 17 v11) 18 v12) 20 v13) 19 v13) 25 v17) 24 v17) 37 v29) 36 v29) 49 v41) 48 v41) 61 v53) 60 v53) 62 q6.1) 63 q6.1) 64 (gsel q6.1 true q10.1 (.tuple #[]))) 65 v54) 66 v54
                 (gsel v54 true
                   ((fieldA 1 (ptr (n) 0)).bind fun v57 =>
                    (ld false 1 v57 q10.2.1).bind fun v58 =>
                    (binK .plain .eql v58 (.int .i64 0)).bind fun v59 =>
                    some (put (put (put t56 67 v57) 68 v58) 69 v59, q10.2.1, q10.2.2 + 27))
                   (some (put (put (put t56 67 (.tuple #[])) 68 (.tuple #[])) 69 (.tuple #[]), q10.2.1, q10.2.2 + 27))
                 ).bind fun (q55 : R3) =>
                 (pickV (q55.1 66) (q55.1 69) (.bool false)).bind fun v60 =>
                 let t62 : Tm := put (put q55.1 70 v60) 71 v60
                 (gsel v60 true
                   ((fieldA 2 (t62 2)).bind fun v63 =>
                    (ld false 1 v63 q55.2.1).bind fun v64 =>
                    (binK .plain .eql v64 (.string ⟨#[]⟩)).bind fun v65 =>
                    some (put (put (put t62 72 v63) 73 v64) 74 v65, q55.2.1, q55.2.2))
                   (some (put (put (put t62 72 (.tuple #[])) 73 (.tuple #[])) 74 (.tuple #[]), q55.2.1, q55.2.2))
                 ).bind fun (q61 : R3) =>
                 (pickV (q61.1 71) (q61.1 74) (.bool false)).bind fun v66 =>
                 some (v66, q61.2.1, q61.2.2))
                ((binK .plain .eql v12 (.int .i64 6)).bind fun v67 =>
                 csel v67
                   (let t69 : Tm := put (put (put (put (put (put (put (put (put (put (put (put (put (put (put (put (put (put (put (put (put (put (put (put (put (put (put (put (put (put t 2 (ptr (n) 0)) 4 (.bool false)) 7 v3) 8 v4) 9 (t 1)) 10 v5) 11 q6.1) 5 q6.1) 12 v7) 13 v8) 14 (t 1)) 15 v9) 16 q10.1) 6 q10.1) 17 v11) 18 v12) 20 v13) 19 v13) 25 v17) 24 v17) 37 v29) 36 v29) 49 v41) 48 v41) 61 v53) 60 v53) 77 v67) 76 v67) 78 q6.1) 79 q6.1
                    (gsel q6.1 true
                      ((fieldA 1 (ptr (n) 0)).bind fun v70 =>
                       (ld false 1 v70 q10.2.1).bind fun v71 =>
                       (C 45 [v71, .int .i64 0, .int .i64 1000000000] q10.2.1 (q10.2.2 + 31)).bind fun q72 =>
                       some (put (put (put t69 80 v70) 81 v71) 82 q72.1, q72.2.1, q72.2.2))
                      (some (put (put (put t69 80 (.tuple #[])) 81 (.tuple #[])) 82 (.tuple #[]), q10.2.1, q10.2.2 + 31))
                    ).bind fun (q68 : R3) =>
                    (pickV (q68.1 79) (q68.1 82) (.bool false)).bind fun v73 =>
                    let t75 : Tm := put (put q68.1 83 v73) 84 v73
                    (gsel v73 true
                      ((fieldA 4 (t75 2)).bind fun v76 =>
                       (ld false 1 v76 q68.2.1).bind fun v77 =>
                       (binK .plain .eql v77 (.int .i64 0)).bind fun v78 =>
                       some (put (put (put t75 85 v76) 86 v77) 87 v78, q68.2.1, q68.2.2))
                      (some (put (put (put t75 85 (.tuple #[])) 86 (.tuple #[])) 87 (.tuple #[]), q68.2.1, q68.2.2))
                    ).bind fun (q74 : R3) =>
                    (pickV (q74.1 84) (q74.1 87) (.bool false)).bind fun v79 =>
                    let t81 : Tm := put (put q74.1 88 v79) 89 v79
                    (gsel v79 true
                      ((fieldA 2 (t81 2)).bind fun v82 =>
                       (ld false 1 v82 q74.2.1).bind fun v83 =>
                       (binK .plain .eql v83 (.string ⟨#[]⟩)).bind fun v84 =>
                       some (put (put (put t81 90 v82) 91 v83) 92 v84, q74.2.1, q74.2.2))
                      (some (put (put (put t81 90 (.tuple #[])) 91 (.tuple #[])) 92 (.tuple #[]), q74.2.1, q74.2.2))
                    ).bind fun (q80 : R3) =>
                    (pickV (q80.1 89) (q80.1 92) (.bool false)).bind fun v85 =>
                    some (v85, q80.2.1, q80.2.2))
                   ((binK .plain .eql v12 (.int .i64 7)).bind fun v86 =>
                    csel v86
                      (let t88 : Tm := put (put (put (put (put (put (put (put (put (put (put (put (put (put (put (put (put (put (put (put (put (put (put (put (put (put (put (put (put (put (put (put t 2 (ptr (n) 0)) 4 (.bool false)) 7 v3) 8 v4) 9 (t 1)) 10 v5) 11 q6.1) 5 q6.1) 12 v7) 13 v8) 14 (t 1)) 15 v9) 16 q10.1) 6 q10.1) 17 v11) 18 v12) 20 v13) 19 v13) 25 v17) 24 v17) 37 v29) 36 v29) 49 v41) 48 v41) 61 v53) 60 v53) 77 v67) 76 v67) 95 v86) 94 v86) 96 q6.1) 97 q6.1
                       (gsel q6.1 true
                         ((fieldA 1 (ptr (n) 0)).bind fun v89 =>
                          (ld false 1 v89 q10.2.1).bind fun v90 =>
                          (binK .plain .eql v90 (.int .i64 0)).bind fun v91 =>
                          some (put (put (put t88 98 v89) 99 v90) 100 v91, q10.2.1, q10.2.2 + 33))
                         (some (put (put (put t88 98 (.tuple #[])) 99 (.tuple #[])) 100 (.tuple #[]), q10.2.1, q10.2.2 + 33))
                       ).bind fun (q87 : R3) =>
                       (pickV (q87.1 97) (q87.1 100) (.bool false)).bind fun v92 =>
                       let t94 : Tm := put (put q87.1 101 v92) 102 v92
                       (gsel v92 true
                         ((fieldA 4 (t94 2)).bind fun v95 =>
                          (ld false 1 v95 q87.2.1).bind fun v96 =>
                          (binK .plain .eql v96 (.int .i64 0)).bind fun v97 =>
                          some (put (put (put t94 103 v95) 104 v96) 105 v97, q87.2.1, q87.2.2))
                         (some (put (put (put t94 103 (.tuple #[])) 104 (.tuple #[])) 105 (.tuple #[]), q87.2.1, q87.2.2))
                       ).bind fun (q93 : R3) =>
                       (pickV (q93.1 102) (q93.1 105) (.bool false)).bind fun v98 =>
                       let t100 : Tm := put (put q93.1 106 v98) 107 v98
                       (gsel v98 true
                         ((fieldA 2 (t100 2)).bind fun v101 =>
                          (ld false 1 v101 q93.2.1).bind fun v102 =>
                          (binK .plain .eql v102 (.string ⟨#[]⟩)).bind fun v103 =>
                          some (put (put (put t100 108 v101) 109 v102) 110 v103, q93.2.1, q93.2.2))
                         (some (put (put (put t100 108 (.tuple #[])) 109 (.tuple #[])) 110 (.tuple #[]), q93.2.1, q93.2.2))
                       ).bind fun (q99 : R3) =>
                       (pickV (q99.1 107) (q99.1 110) (.bool false)).bind fun v104 =>
                       some (v104, q99.2.1, q99.2.2))
                      ((binK .plain .eql v12 (.int .i64 8)).bind fun v105 =>
                       csel v105
                         ((fieldA 1 (ptr (n) 0)).bind fun v106 =>
                          (ld false 1 v106 q10.2.1).bind fun v107 =>
                          (C 45 [v107, .int .i64 0, .int .i64 99] q10.2.1 (q10.2.2 + 29)).bind fun q108 =>
                          let t110 : Tm := put (put (put (put (put (put (put (put (put (put (put (put (put (put (put (put (put (put (put (put (put (put (put (put (put (put (put (put (put (put (put (put (put (put (put (put t 2 (ptr (n) 0)) 4 (.bool false)) 7 v3) 8 v4) 9 (t 1)) 10 v5) 11 q6.1) 5 q6.1) 12 v7) 13 v8) 14 (t 1)) 15 v9) 16 q10.1) 6 q10.1) 17 v11) 18 v12) 20 v13) 19 v13) 25 v17) 24 v17) 37 v29) 36 v29) 49 v41) 48 v41) 61 v53) 60 v53) 77 v67) 76 v67) 95 v86) 94 v86) 113 v105) 112 v105) 114 v106) 115 v107) 116 q108.1) 117 q108.1
                          (gsel q108.1 true
                            ((ld true 5 (ptr (n) 0) q108.2.1).bind fun v111 =>
                             (fieldA 1 (ptr (n) 0)).bind fun v112 =>
                             (ld false 1 v112 q108.2.1).bind fun v113 =>
                             (bld [.int .i64 0, .int .i64 0, .string ⟨#[]⟩, .int .i64 0, .int .i64 0] [(0, 1, .int .i64 8), (1, 1, v113)]).bind fun v114 =>
                             (binK (.agg [(0, (.int .i64)), (1, (.int .i64)), (2, .string), (3, (.int .i64)), (4, (.int .i64))]) .eql v111 v114).bind fun v115 =>
                             some (put (put (put (put (put t110 118 v111) 119 v112) 120 v113) 121 v114) 122 v115, q108.2.1, q108.2.2))
                            (some (put (put (put (put (put t110 118 (.tuple #[])) 119 (.tuple #[])) 120 (.tuple #[])) 121 (.tuple #[])) 122 (.tuple #[]), q108.2.1, q108.2.2))
                          ).bind fun (q109 : R3) =>
                          (pickV (q109.1 117) (q109.1 122) (.bool false)).bind fun v116 =>
                          some (v116, q109.2.1, q109.2.2))
                         ((binK .plain .eql v12 (.int .i64 9)).bind fun v117 =>
                          csel v117
                            ((fieldA 1 (ptr (n) 0)).bind fun v118 =>
                             (ld false 1 v118 q10.2.1).bind fun v119 =>
                             (C 45 [v119, .int .i64 0, .int .i64 1000000000] q10.2.1 (q10.2.2 + 31)).bind fun q120 =>
                             let t122 : Tm := put (put (put (put (put (put (put (put (put (put (put (put (put (put (put (put (put (put (put (put (put (put (put (put (put (put (put (put (put (put (put (put (put (put (put (put (put (put t 2 (ptr (n) 0)) 4 (.bool false)) 7 v3) 8 v4) 9 (t 1)) 10 v5) 11 q6.1) 5 q6.1) 12 v7) 13 v8) 14 (t 1)) 15 v9) 16 q10.1) 6 q10.1) 17 v11) 18 v12) 20 v13) 19 v13) 25 v17) 24 v17) 37 v29) 36 v29) 49 v41) 48 v41) 61 v53) 60 v53) 77 v67) 76 v67) 95 v86) 94 v86) 113 v105) 112 v105) 125 v117) 124 v117) 126 v118) 127 v119) 128 q120.1) 129 q120.1
                             (gsel q120.1 true
                               ((ld true 5 (ptr (n) 0) q120.2.1).bind fun v123 =>
                                (fieldA 1 (ptr (n) 0)).bind fun v124 =>
                                (ld false 1 v124 q120.2.1).bind fun v125 =>
                                (bld [.int .i64 0, .int .i64 0, .string ⟨#[]⟩, .int .i64 0, .int .i64 0] [(0, 1, .int .i64 9), (1, 1, v125)]).bind fun v126 =>
                                (binK (.agg [(0, (.int .i64)), (1, (.int .i64)), (2, .string), (3, (.int .i64)), (4, (.int .i64))]) .eql v123 v126).bind fun v127 =>
                                some (put (put (put (put (put t122 130 v123) 131 v124) 132 v125) 133 v126) 134 v127, q120.2.1, q120.2.2))
                               (some (put (put (put (put (put t122 130 (.tuple #[])) 131 (.tuple #[])) 132 (.tuple #[])) 133 (.tuple #[])) 134 (.tuple #[]), q120.2.1, q120.2.2))
                             ).bind fun (q121 : R3) =>
                             (pickV (q121.1 129) (q121.1 134) (.bool false)).bind fun v128 =>
                             some (v128, q121.2.1, q121.2.2))
                            (some (.bool false, q10.2.1, q10.2.2 + 21))))))))))
theorem s88 (C : Calling) (L : Body → Body) (t : Tm) (H : Hp) (n : Nat) : bodyK Try.prog C L Try.f88 t H n = S88 C L t H n := by kernel_rfl
theorem c88 (args : List Value) (H : Hp) (n : Nat) : Call Try.prog 88 args H n = S88 (Call Try.prog) Loop (argsT args) H n := (Call_body Try.func88 args H n).trans (s88 ..)
/-! 89: spec.l2NameByte -/
noncomputable def S89 (C : Calling) (L : Body → Body) (t : Tm) (H : Hp) (n : Nat) : Option (Value × Hp × Nat) :=
  (binK .plain .geq (t 0) (.int .u8 97)).bind fun v1 =>
  let t3 : Tm := put (put (put (put t 2 (.bool false)) 3 (t 0)) 4 v1) 5 v1
  (gsel v1 true
    ((binK .plain .leq (t3 0) (.int .u8 122)).bind fun v4 =>
     some (put (put t3 6 (t3 0)) 7 v4, H, n + 40))
    (some (put (put t3 6 (.tuple #[])) 7 (.tuple #[]), H, n + 40))
  ).bind fun (q2 : R3) =>
  (pickV (q2.1 5) (q2.1 7) (.bool false)).bind fun v5 =>
  let t7 : Tm := put (put q2.1 8 v5) 9 v5
  (gsel v5 false
    ((binK .plain .eql (t7 0) (.int .u8 43)).bind fun v8 =>
     some (put (put t7 10 (t7 0)) 11 v8, q2.2.1, q2.2.2))
    (some (put (put t7 10 (.tuple #[])) 11 (.tuple #[]), q2.2.1, q2.2.2))
  ).bind fun (q6 : R3) =>
  (pickV (q6.1 9) (.bool true) (q6.1 11)).bind fun v9 =>
  let t11 : Tm := put (put q6.1 12 v9) 13 v9
  (gsel v9 false
    ((binK .plain .eql (t11 0) (.int .u8 45)).bind fun v12 =>
     some (put (put t11 14 (t11 0)) 15 v12, q6.2.1, q6.2.2))
    (some (put (put t11 14 (.tuple #[])) 15 (.tuple #[]), q6.2.1, q6.2.2))
  ).bind fun (q10 : R3) =>
  (pickV (q10.1 13) (.bool true) (q10.1 15)).bind fun v13 =>
  let t15 : Tm := put (put q10.1 16 v13) 17 v13
  (gsel v13 false
    ((binK .plain .eql (t15 0) (.int .u8 42)).bind fun v16 =>
     some (put (put t15 18 (t15 0)) 19 v16, q10.2.1, q10.2.2))
    (some (put (put t15 18 (.tuple #[])) 19 (.tuple #[]), q10.2.1, q10.2.2))
  ).bind fun (q14 : R3) =>
  (pickV (q14.1 17) (.bool true) (q14.1 19)).bind fun v17 =>
  let t19 : Tm := put (put q14.1 20 v17) 21 v17
  (gsel v17 false
    ((binK .plain .eql (t19 0) (.int .u8 60)).bind fun v20 =>
     some (put (put t19 22 (t19 0)) 23 v20, q14.2.1, q14.2.2))
    (some (put (put t19 22 (.tuple #[])) 23 (.tuple #[]), q14.2.1, q14.2.2))
  ).bind fun (q18 : R3) =>
  (pickV (q18.1 21) (.bool true) (q18.1 23)).bind fun v21 =>
  let t23 : Tm := put (put q18.1 24 v21) 25 v21
  (gsel v21 false
    ((binK .plain .eql (t23 0) (.int .u8 61)).bind fun v24 =>
     some (put (put t23 26 (t23 0)) 27 v24, q18.2.1, q18.2.2))
    (some (put (put t23 26 (.tuple #[])) 27 (.tuple #[]), q18.2.1, q18.2.2))
  ).bind fun (q22 : R3) =>
  (pickV (q22.1 25) (.bool true) (q22.1 27)).bind fun v25 =>
  let t27 : Tm := put (put q22.1 28 v25) 29 v25
  (gsel v25 false
    ((binK .plain .eql (t27 0) (.int .u8 63)).bind fun v28 =>
     some (put (put t27 30 (t27 0)) 31 v28, q22.2.1, q22.2.2))
    (some (put (put t27 30 (.tuple #[])) 31 (.tuple #[]), q22.2.1, q22.2.2))
  ).bind fun (q26 : R3) =>
  (pickV (q26.1 29) (.bool true) (q26.1 31)).bind fun v29 =>
  let t31 : Tm := put (put q26.1 32 v29) 33 v29
  (gsel v29 false
    ((binK .plain .eql (t31 0) (.int .u8 33)).bind fun v32 =>
     some (put (put t31 34 (t31 0)) 35 v32, q26.2.1, q26.2.2))
    (some (put (put t31 34 (.tuple #[])) 35 (.tuple #[]), q26.2.1, q26.2.2))
  ).bind fun (q30 : R3) =>
  (pickV (q30.1 33) (.bool true) (q30.1 35)).bind fun v33 =>
  let t35 : Tm := put (put q30.1 36 v33) 37 v33
  (gsel v33 false
    ((binK .plain .eql (t35 0) (.int .u8 47)).bind fun v36 =>
     some (put (put t35 38 (t35 0)) 39 v36, q30.2.1, q30.2.2))
    (some (put (put t35 38 (.tuple #[])) 39 (.tuple #[]), q30.2.1, q30.2.2))
  ).bind fun (q34 : R3) =>
  (pickV (q34.1 37) (.bool true) (q34.1 39)).bind fun v37 =>
  some (v37, q34.2.1, q34.2.2)
theorem s89 (C : Calling) (L : Body → Body) (t : Tm) (H : Hp) (n : Nat) : bodyK Try.prog C L Try.f89 t H n = S89 C L t H n := by kernel_rfl
theorem c89 (args : List Value) (H : Hp) (n : Nat) : Call Try.prog 89 args H n = S89 (Call Try.prog) Loop (argsT args) H n := (Call_body Try.func89 args H n).trans (s89 ..)
/-! 90: laws.toInstr -/
noncomputable def S90 (C : Calling) (L : Body → Body) (t : Tm) (H : Hp) (n : Nat) : Option (Value × Hp × Nat) :=
  (vcells (t 0)).bind fun c2 =>
  let H1 := H.set (n) (some (.row c2 0 true))
  let H3 := H1.set (n + 1) (some (.row [.int .i64 0, .int .i64 0, .int .i64 0, .string ⟨#[]⟩] 0 true))
  let H4 := H3.set (n + 2) (some (.row [.int .i64 0, .int .i64 0, .int .i64 0, .string ⟨#[]⟩] 0 true))
  (fieldA 0 (ptr (n) 0)).bind fun v5 =>
  (ld false 1 v5 H4).bind fun v6 =>
  (fieldA 0 (ptr (n + 2) 0)).bind fun v7 =>
  (st false 1 v7 v6 H4).bind fun H8 =>
  (fieldA 1 (ptr (n) 0)).bind fun v9 =>
  (ld false 1 v9 H8).bind fun v10 =>
  (fieldA 1 (ptr (n + 2) 0)).bind fun v11 =>
  (st false 1 v11 v10 H8).bind fun H12 =>
  (fieldA 2 (ptr (n) 0)).bind fun v13 =>
  (ld false 1 v13 H12).bind fun v14 =>
  (fieldA 2 (ptr (n + 2) 0)).bind fun v15 =>
  (st false 1 v15 v14 H12).bind fun H16 =>
  (fieldA 3 (ptr (n) 0)).bind fun v17 =>
  (ld false 1 v17 H16).bind fun v18 =>
  (fieldA 3 (ptr (n + 2) 0)).bind fun v19 =>
  (st false 1 v19 v18 H16).bind fun H20 =>
  (ld true 4 (ptr (n + 2) 0) H20).bind fun v21 =>
  (st true 4 (ptr (n + 1) 0) v21 H20).bind fun H22 =>
  (ld true 4 (ptr (n + 1) 0) H22).bind fun v23 =>
  some (v23, H22, n + 21)
theorem s90 (C : Calling) (L : Body → Body) (t : Tm) (H : Hp) (n : Nat) : bodyK Try.prog C L Try.f90 t H n = S90 C L t H n := by kernel_rfl
theorem c90 (args : List Value) (H : Hp) (n : Nat) : Call Try.prog 90 args H n = S90 (Call Try.prog) Loop (argsT args) H n := (Call_body Try.func90 args H n).trans (s90 ..)
/-! 91: laws.toDef -/
noncomputable def S91 (C : Calling) (L : Body → Body) (t : Tm) (H : Hp) (n : Nat) : Option (Value × Hp × Nat) :=
  (vcells (t 0)).bind fun c2 =>
  let H1 := H.set (n) (some (.row c2 0 true))
  let H3 := H1.set (n + 1) (some (.row [.string ⟨#[]⟩, .int .i64 0, .int .i64 0] 0 true))
  let H4 := H3.set (n + 2) (some (.row [.string ⟨#[]⟩, .int .i64 0, .int .i64 0] 0 true))
  (fieldA 0 (ptr (n) 0)).bind fun v5 =>
  (ld false 1 v5 H4).bind fun v6 =>
  (fieldA 0 (ptr (n + 2) 0)).bind fun v7 =>
  (st false 1 v7 v6 H4).bind fun H8 =>
  (fieldA 1 (ptr (n) 0)).bind fun v9 =>
  (ld false 1 v9 H8).bind fun v10 =>
  (fieldA 1 (ptr (n + 2) 0)).bind fun v11 =>
  (st false 1 v11 v10 H8).bind fun H12 =>
  (fieldA 2 (ptr (n) 0)).bind fun v13 =>
  (ld false 1 v13 H12).bind fun v14 =>
  (fieldA 2 (ptr (n + 2) 0)).bind fun v15 =>
  (st false 1 v15 v14 H12).bind fun H16 =>
  (ld true 3 (ptr (n + 2) 0) H16).bind fun v17 =>
  (st true 3 (ptr (n + 1) 0) v17 H16).bind fun H18 =>
  (ld true 3 (ptr (n + 1) 0) H18).bind fun v19 =>
  some (v19, H18, n + 17)
theorem s91 (C : Calling) (L : Body → Body) (t : Tm) (H : Hp) (n : Nat) : bodyK Try.prog C L Try.f91 t H n = S91 C L t H n := by kernel_rfl
theorem c91 (args : List Value) (H : Hp) (n : Nat) : Call Try.prog 91 args H n = S91 (Call Try.prog) Loop (argsT args) H n := (Call_body Try.func91 args H n).trans (s91 ..)
/-! 92: impl.isNameByte -/
noncomputable def S92 (C : Calling) (L : Body → Body) (t : Tm) (H : Hp) (n : Nat) : Option (Value × Hp × Nat) :=
  (binK .plain .geq (t 0) (.int .u8 97)).bind fun v1 =>
  let t3 : Tm := put (put (put (put t 2 (.bool false)) 3 (t 0)) 4 v1) 5 v1
  (gsel v1 true
    ((binK .plain .leq (t3 0) (.int .u8 122)).bind fun v4 =>
     some (put (put t3 6 (t3 0)) 7 v4, H, n + 14))
    (some (put (put t3 6 (.tuple #[])) 7 (.tuple #[]), H, n + 14))
  ).bind fun (q2 : R3) =>
  (pickV (q2.1 5) (q2.1 7) (.bool false)).bind fun v5 =>
  let t7 : Tm := put (put q2.1 8 v5) 9 v5
  (gsel v5 false
    ((bsl (n + 8) 1 8 [.int .u8 0] [(0, 1, .int .u8 43), (1, 1, .int .u8 45), (2, 1, .int .u8 42), (3, 1, .int .u8 60), (4, 1, .int .u8 61), (5, 1, .int .u8 63), (6, 1, .int .u8 33), (7, 1, .int .u8 47)] q2.2.1).bind fun p8 =>
     (conv .mark (n + 9) p8.1 p8.2).bind fun p9 =>
     (C 116 [p9.1, t7 0] p9.2 (q2.2.2)).bind fun q10 =>
     some (put (put (put (put t7 10 p8.1) 11 p9.1) 12 (t7 0)) 13 q10.1, q10.2.1, q10.2.2))
    (some (put (put (put (put t7 10 (.tuple #[])) 11 (.tuple #[])) 12 (.tuple #[])) 13 (.tuple #[]), q2.2.1, q2.2.2))
  ).bind fun (q6 : R3) =>
  (pickV (q6.1 9) (.bool true) (q6.1 13)).bind fun v11 =>
  some (v11, q6.2.1, q6.2.2)
theorem s92 (C : Calling) (L : Body → Body) (t : Tm) (H : Hp) (n : Nat) : bodyK Try.prog C L Try.f92 t H n = S92 C L t H n := by kernel_rfl
theorem c92 (args : List Value) (H : Hp) (n : Nat) : Call Try.prog 92 args H n = S92 (Call Try.prog) Loop (argsT args) H n := (Call_body Try.func92 args H n).trans (s92 ..)
end Go.Proofs.Ytpiicpcofjhakaa.Ax
