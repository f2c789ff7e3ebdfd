/- What the bodies of some functions of the program come to in the abstract machine. -/
import Derived.Test.YtdnokdgkccnbnaaProg
import Derived.Test.YtdnokdgkccnbnaaAx3
set_option linter.unusedVariables false
namespace Go.Proofs.Ytdnokdgkccnbnaa.Ax
open Go
set_option maxRecDepth 100000
/-! 6: laws.FnCopied -/
noncomputable def S6L0 (C : Calling) (L : Body → Body) : Body := fun t H n =>
  (fieldA 0 (t 3)).bind fun v41 =>
  (ld false 1 v41 H).bind fun v42 =>
  (lenV false v42).bind fun v43 =>
  (binK .plain .lss (t 10) v43).bind fun v44 =>
  csel v44
    ((fieldA 0 (t 6)).bind fun v45 =>
     (ld false 1 v45 H).bind fun v46 =>
     (idxA 5 v46 (t 10)).bind fun v47 =>
     (ld true 5 v47 H).bind fun v48 =>
     (fieldA 0 (t 3)).bind fun v49 =>
     (ld false 1 v49 H).bind fun v50 =>
     (idxA 5 v50 (t 10)).bind fun v51 =>
     (ld true 5 v51 H).bind fun v52 =>
     (binK (.agg [(0, (.int .i64)), (1, (.int .i64)), (2, .string), (3, (.int .i64)), (4, (.int .i64))]) .neq v48 v52).bind fun v53 =>
     csel v53
       (some ⟨.ret, put (put (put (put (put (put (put (put (put (put (put (put (put (put (put (put (put t 51 (t 10)) 52 v41) 53 v42) 54 v43) 55 v44) 58 v45) 59 v46) 60 (t 10)) 61 v47) 62 v48) 63 v49) 64 v50) 65 (t 10)) 66 v51) 67 v52) 68 v53) 2 (.bool false), H, n + 17⟩)
       ((binK .plain .add (t 10) (.int .i64 1)).bind fun v54 =>
        some ⟨.normal, put (put (put (put (put (put (put (put (put (put (put (put (put (put (put (put (put (put (put t 51 (t 10)) 52 v41) 53 v42) 54 v43) 55 v44) 58 v45) 59 v46) 60 (t 10)) 61 v47) 62 v48) 63 v49) 64 v50) 65 (t 10)) 66 v51) 67 v52) 68 v53) 56 (t 10)) 57 v54) 10 v54, H, n + 19⟩))
    (some ⟨(.exit 0), put (put (put (put (put t 51 (t 10)) 52 v41) 53 v42) 54 v43) 55 v44, H, n + 5⟩)
noncomputable def S6 (C : Calling) (L : Body → Body) (t : Tm) (H : Hp) (n : Nat) : Option (Value × Hp × Nat) :=
  (C 14 [t 0] H (n + 3)).bind fun q1 =>
  csel q1.1
    (some (.bool true, q1.2.1, q1.2.2 + 1))
    ((C 19 [t 0] q1.2.1 (q1.2.2 + 11)).bind fun q2 =>
     (ext 0 q2.1).bind fun v3 =>
     (ext 1 q2.1).bind fun v4 =>
     (ext 2 q2.1).bind fun v5 =>
     let H6 := q2.2.1.set (q1.2.2 + 6) (some (.row [nilS] 0 true))
     let H7 := H6.set (q1.2.2 + 7) (some (.row [nilS] 0 true))
     (st true 1 (ptr (q1.2.2 + 6) 0) v3 H7).bind fun H8 =>
     (st true 1 (ptr (q1.2.2 + 7) 0) v4 H8).bind fun H9 =>
     (ld true 1 (ptr (q1.2.2 + 6) 0) H9).bind fun v10 =>
     (ld true 1 (ptr (q1.2.2 + 7) 0) H9).bind fun v11 =>
     (C 20 [v10, v11, v5] H9 (q2.2.2 + 10)).bind fun q12 =>
     (ext 0 q12.1).bind fun v13 =>
     (ext 1 q12.1).bind fun v14 =>
     let H15 := q12.2.1.set (q2.2.2 + 7) (some (.row [nilS] 0 true))
     (st true 1 (ptr (q2.2.2 + 7) 0) v13 H15).bind fun H16 =>
     (ld true 1 (ptr (q1.2.2 + 6) 0) H16).bind fun v17 =>
     (ld true 1 (ptr (q1.2.2 + 7) 0) H16).bind fun v18 =>
     (C 21 [v17, v18, v5] H16 (q12.2.2 + 10)).bind fun q19 =>
     (ext 0 q19.1).bind fun v20 =>
     (ext 1 q19.1).bind fun v21 =>
     let H22 := q19.2.1.set (q12.2.2 + 7) (some (.row [nilS] 0 true))
     (st true 1 (ptr (q12.2.2 + 7) 0) v20 H22).bind fun H23 =>
     (binK .plain .neq v14 v21).bind fun v24 =>
     csel v24
       (some (.bool false, H23, q19.2.2 + 4))
       ((binK .plain .lss v14 (.int .i64 0)).bind fun v25 =>
        csel v25
          ((fieldA 0 (ptr (q2.2.2 + 7) 0)).bind fun v26 =>
           (ld false 1 v26 H23).bind fun v27 =>
           (lenV false v27).bind fun v28 =>
           (fieldA 0 (ptr (q1.2.2 + 6) 0)).bind fun v29 =>
           (ld false 1 v29 H23).bind fun v30 =>
           (lenV false v30).bind fun v31 =>
           (binK .plain .eql v28 v31).bind fun v32 =>
           let t34 : Tm := put (put (put (put (put (put (put (put (put (put (put (put (put (put (put (put (put (put (put (put (put (put (put (put (put (put (put (put (put (put (put (put (put (put (put (put (put (put (put (put (put (put (put t 2 (.bool false)) 11 (t 0)) 12 q1.1) 14 (t 0)) 15 q2.1) 13 q2.1) 16 v3) 17 v4) 18 v5) 3 (ptr (q1.2.2 + 6) 0)) 4 (ptr (q1.2.2 + 7) 0)) 5 v5) 20 v10) 21 v11) 22 v5) 23 q12.1) 19 q12.1) 24 v13) 25 v14) 6 (ptr (q2.2.2 + 7) 0)) 7 v14) 27 v17) 28 v18) 29 v5) 30 q19.1) 26 q19.1) 31 v20) 32 v21) 8 (ptr (q12.2.2 + 7) 0)) 9 v21) 33 v14) 34 v21) 35 v24) 36 v14) 37 v25) 38 v26) 39 v27) 40 v28) 41 v29) 42 v30) 43 v31) 44 v32) 45 v32
           (gsel v32 false
             ((fieldA 0 (ptr (q2.2.2 + 7) 0)).bind fun v35 =>
              (ld false 1 v35 H23).bind fun v36 =>
              (lenV false v36).bind fun v37 =>
              (binK .plain .eql v37 (.int .i64 0)).bind fun v38 =>
              some (put (put (put (put t34 46 v35) 47 v36) 48 v37) 49 v38, H23, q19.2.2 + 19))
             (some (put (put (put (put t34 46 (.tuple #[])) 47 (.tuple #[])) 48 (.tuple #[])) 49 (.tuple #[]), H23, q19.2.2 + 19))
           ).bind fun (q33 : R3) =>
           (pickV (q33.1 45) (.bool true) (q33.1 49)).bind fun v39 =>
           some (v39, q33.2.1, q33.2.2))
          ((L (S6L0 C L) (put (put (put (put (put (put (put (put (put (put (put (put (put (put (put (put (put (put (put (put (put (put (put (put (put (put (put (put (put (put (put (put (put (put (put (put t 2 (.bool false)) 11 (t 0)) 12 q1.1) 14 (t 0)) 15 q2.1) 13 q2.1) 16 v3) 17 v4) 18 v5) 3 (ptr (q1.2.2 + 6) 0)) 4 (ptr (q1.2.2 + 7) 0)) 5 v5) 20 v10) 21 v11) 22 v5) 23 q12.1) 19 q12.1) 24 v13) 25 v14) 6 (ptr (q2.2.2 + 7) 0)) 7 v14) 27 v17) 28 v18) 29 v5) 30 q19.1) 26 q19.1) 31 v20) 32 v21) 8 (ptr (q12.2.2 + 7) 0)) 9 v21) 33 v14) 34 v21) 35 v24) 36 v14) 37 v25) 10 (.int .i64 0)) H23 (q19.2.2 + 6)).bind fun (o40 : Out) =>
           let o55 := outOf 0 o40
           thenK o55
             ((ld true 1 (o55.t 6) o55.H).bind fun v56 =>
              (C 22 [v56] o55.H (o55.n + 21)).bind fun q57 =>
              let t59 : Tm := put (put (put o55.t 69 v56) 70 q57.1) 71 q57.1
              (gsel q57.1 true
                ((ld true 1 (t59 6) q57.2.1).bind fun v60 =>
                 (C 10 [v60, t59 7] q57.2.1 (q57.2.2)).bind fun q61 =>
                 (ld true 1 (t59 4) q61.2.1).bind fun v62 =>
                 ask (ld true 1 (t59 4) q57.2.1 = some v62) <|
                 (C 10 [v62, t59 5] q61.2.1 (q61.2.2)).bind fun q63 =>
                 (binK .plain .eql q61.1 q63.1).bind fun v64 =>
                 some ⟨put (put (put (put (put (put (put t59 72 v60) 73 (t59 7)) 74 q61.1) 75 v62) 76 (t59 5)) 77 q63.1) 78 v64, q63.2.1, q63.2.2, [⟨6, true, 1, t59 4, v62⟩, ⟨3, true, 1, t59 6, v60⟩, ⟨0, true, 1, o55.t 6, v56⟩], [(8, q61.2.1), (5, q57.2.1), (1, o55.H)]⟩)
                (some ⟨put (put (put (put (put (put (put t59 72 (.tuple #[])) 73 (.tuple #[])) 74 (.tuple #[])) 75 (.tuple #[])) 76 (.tuple #[])) 77 (.tuple #[])) 78 (.tuple #[]), q57.2.1, q57.2.2, [⟨0, true, 1, o55.t 6, v56⟩], [(1, o55.H)]⟩)
              ).bind fun (q58 : R5) =>
              (pickV (q58.t 71) (q58.t 78) (.bool false)).bind fun v65 =>
              let t67 : Tm := put (put q58.t 79 v65) 80 v65
              (gsel v65 true
                ((ld true 1 (t67 6) q58.H).bind fun v68 =>
                 askB 4095 true 1 (t67 6) v68 q58.hs <|
                 (C 18 [v68, t67 7] q58.H (q58.n)).bind fun q69 =>
                 asks 16383 q69.2.1 q58.rs <|
                 (ld true 1 (t67 4) q69.2.1).bind fun v70 =>
                 ask (ld true 1 (t67 4) q58.H = some v70) <|
                 askB 4095 true 1 (t67 4) v70 q58.hs <|
                 (C 18 [v70, t67 5] q69.2.1 (q69.2.2)).bind fun q71 =>
                 asks 131071 q71.2.1 q58.rs <|
                 (binK .plain .eql q69.1 q71.1).bind fun v72 =>
                 some ⟨put (put (put (put (put (put (put t67 81 v68) 82 (t67 7)) 83 q69.1) 84 v70) 85 (t67 5)) 86 q71.1) 87 v72, q71.2.1, q71.2.2, (⟨15, true, 1, t67 4, v70⟩ :: ⟨12, true, 1, t67 6, v68⟩ :: q58.rs), ((17, q69.2.1) :: (14, q58.H) :: q58.hs)⟩)
                (some ⟨put (put (put (put (put (put (put t67 81 (.tuple #[])) 82 (.tuple #[])) 83 (.tuple #[])) 84 (.tuple #[])) 85 (.tuple #[])) 86 (.tuple #[])) 87 (.tuple #[]), q58.H, q58.n, q58.rs, q58.hs⟩)
              ).bind fun (q66 : R5) =>
              (pickV (q66.t 80) (q66.t 87) (.bool false)).bind fun v73 =>
              some (v73, q66.H, q66.n))
             (finE o55.e
                (some (o55.t 2, o55.H, o55.n))))))
theorem s6 (C : Calling) (L : Body → Body) (t : Tm) (H : Hp) (n : Nat) : bodyK Try.prog C L Try.f6 t H n = S6 C L t H n := by kernel_rfl
theorem c6 (args : List Value) (H : Hp) (n : Nat) : Call Try.prog 6 args H n = S6 (Call Try.prog) Loop (argsT args) H n := (Call_body Try.func6 args H n).trans (s6 ..)
/-! 10: impl.Write -/
noncomputable def S10 (C : Calling) (L : Body → Body) (t : Tm) (H : Hp) (n : Nat) : Option (Value × Hp × Nat) :=
  (vcells (t 0)).bind fun c2 =>
  let H1 := H.set (n) (some (.row c2 0 true))
  (ld true 1 (ptr (n) 0) H1).bind fun v3 =>
  (C 22 [v3] H1 (n + 11)).bind fun q4 =>
  (un .not q4.1).bind fun v5 =>
  let t7 : Tm := put (put (put (put (put (put t 2 (ptr (n) 0)) 4 (.string ⟨#[]⟩)) 6 v3) 7 q4.1) 8 v5) 9 v5
  (gsel v5 false
    ((ld true 1 (ptr (n) 0) q4.2.1).bind fun v8 =>
     (C 28 [v8, t7 1] q4.2.1 (q4.2.2)).bind fun q9 =>
     (un .not q9.1).bind fun v10 =>
     some (put (put (put (put t7 10 v8) 11 (t7 1)) 12 q9.1) 13 v10, q9.2.1, q9.2.2))
    (some (put (put (put (put t7 10 (.tuple #[])) 11 (.tuple #[])) 12 (.tuple #[])) 13 (.tuple #[]), q4.2.1, q4.2.2))
  ).bind fun (q6 : R3) =>
  (pickV (q6.1 9) (.bool true) (q6.1 13)).bind fun v11 =>
  csel v11
    (some (.string ⟨#[]⟩, q6.2.1, q6.2.2 + 1))
    ((ld true 1 (q6.1 2) q6.2.1).bind fun v12 =>
     (bld [nilS, nilS] [(0, 1, v12)]).bind fun v13 =>
     (vcells v13).bind fun c15 =>
     let H14 := q6.2.1.set (q6.2.2 + 2) (some (.row c15 0 true))
     (fieldA 0 (q6.1 2)).bind fun v16 =>
     (ld false 1 v16 H14).bind fun v17 =>
     (idxA 5 v17 (q6.1 1)).bind fun v18 =>
     (fieldA 0 v18).bind fun v19 =>
     (ld false 1 v19 H14).bind fun v20 =>
     (binK .plain .eql v20 (.int .i64 1)).bind fun v21 =>
     csel v21
       (some (.string ⟨#[40, 41]⟩, H14, q6.2.2 + 12))
       ((C 29 [ptr (q6.2.2 + 2) 0, q6.1 1] H14 (q6.2.2 + 14)).bind fun q22 =>
        (C 30 [ptr (q6.2.2 + 2) 0] q22.2.1 (q22.2.2 + 2)).bind fun q23 =>
        csel q23.1
          (some (.string ⟨#[]⟩, q23.2.1, q23.2.2 + 1))
          ((nilchk (ptr (q6.2.2 + 2) 0)).bind fun v24 =>
           (fieldA 1 v24).bind fun v25 =>
           (ld false 1 v25 q23.2.1).bind fun v26 =>
           (conv .bytesToStr (q23.2.2 + 4) v26 q23.2.1).bind fun p27 =>
           some (p27.1, p27.2, q23.2.2 + 6))))
theorem s10 (C : Calling) (L : Body → Body) (t : Tm) (H : Hp) (n : Nat) : bodyK Try.prog C L Try.f10 t H n = S10 C L t H n := by kernel_rfl
theorem c10 (args : List Value) (H : Hp) (n : Nat) : Call Try.prog 10 args H n = S10 (Call Try.prog) Loop (argsT args) H n := (Call_body Try.func10 args H n).trans (s10 ..)
/-! 14: laws.big -/
noncomputable def S14 (C : Calling) (L : Body → Body) (t : Tm) (H : Hp) (n : Nat) : Option (Value × Hp × Nat) :=
  (lenV false (t 0)).bind fun v1 =>
  (binK .plain .gtr v1 (.int .i64 1048576)).bind fun v2 =>
  some (v2, H, n + 5)
theorem s14 (C : Calling) (L : Body → Body) (t : Tm) (H : Hp) (n : Nat) : bodyK Try.prog C L Try.f14 t H n = S14 C L t H n := by kernel_rfl
theorem c14 (args : List Value) (H : Hp) (n : Nat) : Call Try.prog 14 args H n = S14 (Call Try.prog) Loop (argsT args) H n := (Call_body Try.func14 args H n).trans (s14 ..)
/-! 18: impl.SizeOf -/
noncomputable def S18L0 (C : Calling) (L : Body → Body) : Body := fun t H n =>
  (binK .plain .lss (t 22) (t 21)).bind fun v17 =>
  csel v17
    ((idxA 5 (t 20) (t 22)).bind fun v18 =>
     (ld true 5 v18 H).bind fun v19 =>
     let H20 := H.set (n + 3) (some (.row [.int .i64 0, .int .i64 0, .string ⟨#[]⟩, .int .i64 0, .int .i64 0] 0 true))
     (st true 5 (ptr (n + 3) 0) v19 H20).bind fun H21 =>
     (fieldA 0 (ptr (n + 3) 0)).bind fun v22 =>
     (ld false 1 v22 H21).bind fun v23 =>
     (binK .plain .eql v23 (.int .i64 5)).bind fun v24 =>
     let t26 : Tm := put (put (put (put (put (put (put (put (put t 23 v17) 24 v18) 25 v19) 7 (ptr (n + 3) 0)) 8 (.int .i64 1)) 26 v22) 27 v23) 29 v24) 28 v24
     (csel v24
       ((fieldA 3 (ptr (n + 3) 0)).bind fun v27 =>
        (ld false 1 v27 H21).bind fun v28 =>
        (idxA 1 (t26 5) v28).bind fun v29 =>
        (ld false 1 v29 H21).bind fun v30 =>
        (fieldA 4 (ptr (n + 3) 0)).bind fun v31 =>
        (ld false 1 v31 H21).bind fun v32 =>
        (idxA 1 (t26 5) v32).bind fun v33 =>
        (ld false 1 v33 H21).bind fun v34 =>
        (binK .plain .add v30 v34).bind fun v35 =>
        (binK .plain .add (.int .i64 1) v35).bind fun v36 =>
        some ⟨.normal, put (put (put (put (put (put (put (put (put (put (put (put (put (put t26 30 (.int .i64 1)) 31 (t26 5)) 32 v27) 33 v28) 34 v29) 35 v30) 36 (t26 5)) 37 v31) 38 v32) 39 v33) 40 v34) 41 v35) 42 v36) 8 v36, H21, n + 24⟩)
       ((binK .plain .eql v23 (.int .i64 6)).bind fun v37 =>
        let t39 : Tm := put (put t26 44 v37) 43 v37
        (csel v37
          (some ⟨.normal, t39, H21, n + 12⟩)
          ((binK .plain .eql v23 (.int .i64 7)).bind fun v40 =>
           some ⟨.normal, put (put t39 45 v40) 43 v40, H21, n + 14⟩)
        ).bind fun (o38 : Out) =>
        (csel (o38.t 43)
          ((fieldA 3 (o38.t 7)).bind fun v43 =>
           (ld false 1 v43 o38.H).bind fun v44 =>
           (idxA 1 (o38.t 5) v44).bind fun v45 =>
           (ld false 1 v45 o38.H).bind fun v46 =>
           (binK .plain .add (o38.t 8) v46).bind fun v47 =>
           some ⟨.normal, put (put (put (put (put (put (put (put o38.t 46 (o38.t 8)) 47 (o38.t 5)) 48 v43) 49 v44) 50 v45) 51 v46) 52 v47) 8 v47, o38.H, o38.n + 8⟩)
          (some ⟨.normal, o38.t, o38.H, o38.n⟩)
        ).bind fun (o41 : Out) =>
        some ⟨.normal, o41.t, o41.H, o41.n⟩)
     ).bind fun (o25 : Out) =>
     (minV (o25.t 8) (.int .i64 1000000000)).bind fun v48 =>
     (bsl (o25.n + 3) 1 1 [.int .i64 0] [(0, 1, v48)] o25.H).bind fun p49 =>
     (app (o25.n + 4) 1 8 (o25.t 5) p49.1 p49.2).bind fun p50 =>
     (binK .plain .add (o25.t 22) (.int .i64 1)).bind fun v51 =>
     some ⟨.normal, put (put (put (put (put (put (put (put o25.t 53 (o25.t 5)) 54 (o25.t 8)) 55 v48) 56 p49.1) 57 p50.1) 5 p50.1) 58 v51) 22 v51, p50.2, o25.n + 8⟩)
    (some ⟨(.exit 0), put t 23 v17, H, n + 1⟩)
noncomputable def S18 (C : Calling) (L : Body → Body) (t : Tm) (H : Hp) (n : Nat) : Option (Value × Hp × Nat) :=
  (vcells (t 0)).bind fun c2 =>
  let H1 := H.set (n) (some (.row c2 0 true))
  (ld true 1 (ptr (n) 0) H1).bind fun v3 =>
  (C 22 [v3] H1 (n + 11)).bind fun q4 =>
  (un .not q4.1).bind fun v5 =>
  let t7 : Tm := put (put (put (put (put (put t 2 (ptr (n) 0)) 4 (.int .i64 0)) 9 v3) 10 q4.1) 11 v5) 12 v5
  (gsel v5 false
    ((ld true 1 (ptr (n) 0) q4.2.1).bind fun v8 =>
     (C 28 [v8, t7 1] q4.2.1 (q4.2.2)).bind fun q9 =>
     (un .not q9.1).bind fun v10 =>
     some (put (put (put (put t7 13 v8) 14 (t7 1)) 15 q9.1) 16 v10, q9.2.1, q9.2.2))
    (some (put (put (put (put t7 13 (.tuple #[])) 14 (.tuple #[])) 15 (.tuple #[])) 16 (.tuple #[]), q4.2.1, q4.2.2))
  ).bind fun (q6 : R3) =>
  (pickV (q6.1 12) (.bool true) (q6.1 16)).bind fun v11 =>
  csel v11
    (some (.int .i64 0, q6.2.1, q6.2.2 + 1))
    ((bsl (q6.2.2) 1 0 [.int .i64 0] [] q6.2.1).bind fun p12 =>
     (fieldA 0 (q6.1 2)).bind fun v13 =>
     (ld false 1 v13 p12.2).bind fun v14 =>
     (lenV false v14).bind fun v15 =>
     (L (S18L0 C L) (put (put (put (put (put (put (put q6.1 17 v11) 18 p12.1) 5 p12.1) 19 v13) 20 v14) 21 v15) 22 (.int .i64 0)) p12.2 (q6.2.2 + 6)).bind fun (o16 : Out) =>
     (idxA 1 (o16.t 5) (o16.t 1)).bind fun v52 =>
     (ld false 1 v52 o16.H).bind fun v53 =>
     some (v53, o16.H, o16.n + 5))
theorem s18 (C : Calling) (L : Body → Body) (t : Tm) (H : Hp) (n : Nat) : bodyK Try.prog C L Try.f18 t H n = S18 C L t H n := by kernel_rfl
theorem c18 (args : List Value) (H : Hp) (n : Nat) : Call Try.prog 18 args H n = S18 (Call Try.prog) Loop (argsT args) H n := (Call_body Try.func18 args H n).trans (s18 ..)
/-! 19: spec.DrawCopy -/
noncomputable def S19 (C : Calling) (L : Body → Body) (t : Tm) (H : Hp) (n : Nat) : Option (Value × Hp × Nat) :=
  let H1 := H.set (n) (some (.row [nilS] 0 true))
  let H2 := H1.set (n + 1) (some (.row [nilS] 0 true))
  (C 36 [t 0] H2 (n + 6)).bind fun q3 =>
  (C 37 [q3.1] q3.2.1 (q3.2.2 + 4)).bind fun q4 =>
  let H5 := q4.2.1.set (q3.2.2 + 2) (some (.row [nilS] 0 true))
  (st true 1 (ptr (q3.2.2 + 2) 0) q4.1 H5).bind fun H6 =>
  (C 37 [q3.1] H6 (q4.2.2 + 4)).bind fun q7 =>
  let H8 := q7.2.1.set (q4.2.2 + 2) (some (.row [nilS] 0 true))
  (st true 1 (ptr (q4.2.2 + 2) 0) q7.1 H8).bind fun H9 =>
  (ld true 1 (ptr (q3.2.2 + 2) 0) H9).bind fun v10 =>
  (ld true 1 (ptr (q4.2.2 + 2) 0) H9).bind fun v11 =>
  (ld true 1 (ptr (q4.2.2 + 2) 0) H9).bind fun v12 =>
  (C 41 [q3.1, v12] H9 (q7.2.2 + 8)).bind fun q13 =>
  ask (ld true 1 (ptr (q4.2.2 + 2) 0) q13.2.1 = some v11) <|
  ask (ld true 1 (ptr (q3.2.2 + 2) 0) q13.2.1 = some v10) <|
  (st true 1 (ptr (n) 0) v10 q13.2.1).bind fun H14 =>
  ask (ld true 1 (ptr (q4.2.2 + 2) 0) H14 = some v11) <|
  (st true 1 (ptr (n + 1) 0) v11 H14).bind fun H15 =>
  (ld true 1 (ptr (n) 0) H15).bind fun v16 =>
  (ld true 1 (ptr (n + 1) 0) H15).bind fun v17 =>
  iteK ([v16, v17, q13.1].all notTup) <|
  some (.tuple ⟨[v16, v17, q13.1]⟩, H15, q13.2.2)
theorem s19 (C : Calling) (L : Body → Body) (t : Tm) (H : Hp) (n : Nat) : bodyK Try.prog C L Try.f19 t H n = S19 C L t H n := by kernel_rfl
theorem c19 (args : List Value) (H : Hp) (n : Nat) : Call Try.prog 19 args H n = S19 (Call Try.prog) Loop (argsT args) H n := (Call_body Try.func19 args H n).trans (s19 ..)
/-! 20: impl.Copy -/
noncomputable def S20 (C : Calling) (L : Body → Body) (t : Tm) (H : Hp) (n : Nat) : Option (Value × Hp × Nat) :=
  (vcells (t 0)).bind fun c2 =>
  let H1 := H.set (n) (some (.row c2 0 true))
  (vcells (t 1)).bind fun c4 =>
  let H3 := H1.set (n + 1) (some (.row c4 0 true))
  let H5 := H3.set (n + 2) (some (.row [nilS] 0 true))
  (ld true 1 (ptr (n) 0) H5).bind fun v6 =>
  (C 22 [v6] H5 (n + 7)).bind fun q7 =>
  (un .not q7.1).bind fun v8 =>
  csel v8
    ((bld [nilS] []).bind fun v9 =>
     (st true 1 (ptr (n + 2) 0) v9 q7.2.1).bind fun H10 =>
     (ld true 1 (ptr (n + 2) 0) H10).bind fun v11 =>
     iteK ([v11, .int .i64 (-1)].all notTup) <|
     some (.tuple ⟨[v11, .int .i64 (-1)]⟩, H10, q7.2.2 + 3))
    ((ld true 1 (ptr (n) 0) q7.2.1).bind fun v12 =>
     (C 44 [v12] q7.2.1 (q7.2.2 + 4)).bind fun q13 =>
     let H14 := q13.2.1.set (q7.2.2 + 2) (some (.row [nilS] 0 true))
     (st true 1 (ptr (q7.2.2 + 2) 0) q13.1 H14).bind fun H15 =>
     (ld true 1 (ptr (n + 1) 0) H15).bind fun v16 =>
     (C 22 [v16] H15 (q13.2.2 + 9)).bind fun q17 =>
     (un .not q17.1).bind fun v18 =>
     let t20 : Tm := put (put (put (put (put (put (put (put (put (put (put (put (put (put t 3 (ptr (n) 0)) 4 (ptr (n + 1) 0)) 6 (ptr (n + 2) 0)) 7 (.int .i64 0)) 10 v6) 11 q7.1) 12 v8) 14 v12) 15 q13.1) 8 (ptr (q7.2.2 + 2) 0)) 16 v16) 17 q17.1) 18 v18) 19 v18
     (gsel v18 false
       ((ld true 1 (ptr (n + 1) 0) q17.2.1).bind fun v21 =>
        (C 28 [v21, t20 2] q17.2.1 (q17.2.2)).bind fun q22 =>
        (un .not q22.1).bind fun v23 =>
        some (put (put (put (put t20 20 v21) 21 (t20 2)) 22 q22.1) 23 v23, q22.2.1, q22.2.2))
       (some (put (put (put (put t20 20 (.tuple #[])) 21 (.tuple #[])) 22 (.tuple #[])) 23 (.tuple #[]), q17.2.1, q17.2.2))
     ).bind fun (q19 : R3) =>
     (pickV (q19.1 19) (.bool true) (q19.1 23)).bind fun v24 =>
     csel v24
       ((ld true 1 (q19.1 8) q19.2.1).bind fun v25 =>
        (st true 1 (q19.1 6) v25 q19.2.1).bind fun H26 =>
        (ld true 1 (q19.1 6) H26).bind fun v27 =>
        iteK ([v27, .int .i64 (-1)].all notTup) <|
        some (.tuple ⟨[v27, .int .i64 (-1)]⟩, H26, q19.2.2 + 3))
       ((ld true 1 (q19.1 4) q19.2.1).bind fun v28 =>
        (C 45 [q19.1 8, v28, q19.1 2] q19.2.1 (q19.2.2 + 4)).bind fun q29 =>
        (fieldA 0 (q19.1 8)).bind fun v30 =>
        (ld false 1 v30 q29.2.1).bind fun v31 =>
        (lenV false v31).bind fun v32 =>
        (binK .plain .gtr v32 (.int .i64 3000)).bind fun v33 =>
        csel v33
          ((ld true 1 (q19.1 3) q29.2.1).bind fun v34 =>
           (C 44 [v34] q29.2.1 (q29.2.2 + 8)).bind fun q35 =>
           (st true 1 (q19.1 6) q35.1 q35.2.1).bind fun H36 =>
           (ld true 1 (q19.1 6) H36).bind fun v37 =>
           iteK ([v37, .int .i64 (-1)].all notTup) <|
           some (.tuple ⟨[v37, .int .i64 (-1)]⟩, H36, q35.2.2))
          ((ld true 1 (q19.1 8) q29.2.1).bind fun v38 =>
           (st true 1 (q19.1 6) v38 q29.2.1).bind fun H39 =>
           (ld true 1 (q19.1 6) H39).bind fun v40 =>
           iteK ([v40, q29.1].all notTup) <|
           some (.tuple ⟨[v40, q29.1]⟩, H39, q29.2.2 + 8))))
theorem s20 (C : Calling) (L : Body → Body) (t : Tm) (H : Hp) (n : Nat) : bodyK Try.prog C L Try.f20 t H n = S20 C L t H n := by kernel_rfl
theorem c20 (args : List Value) (H : Hp) (n : Nat) : Call Try.prog 20 args H n = S20 (Call Try.prog) Loop (argsT args) H n := (Call_body Try.func20 args H n).trans (s20 ..)
/-! 21: spec.Copy -/
noncomputable def S21 (C : Calling) (L : Body → Body) (t : Tm) (H : Hp) (n : Nat) : Option (Value × Hp × Nat) :=
  (vcells (t 0)).bind fun c2 =>
  let H1 := H.set (n) (some (.row c2 0 true))
  (vcells (t 1)).bind fun c4 =>
  let H3 := H1.set (n + 1) (some (.row c4 0 true))
  let H5 := H3.set (n + 2) (some (.row [nilS] 0 true))
  (ld true 1 (ptr (n) 0) H5).bind fun v6 =>
  (C 24 [v6] H5 (n + 7)).bind fun q7 =>
  (un .not q7.1).bind fun v8 =>
  csel v8
    ((bld [nilS] []).bind fun v9 =>
     (st true 1 (ptr (n + 2) 0) v9 q7.2.1).bind fun H10 =>
     (ld true 1 (ptr (n + 2) 0) H10).bind fun v11 =>
     iteK ([v11, .int .i64 (-1)].all notTup) <|
     some (.tuple ⟨[v11, .int .i64 (-1)]⟩, H10, q7.2.2 + 3))
    ((ld true 1 (ptr (n + 1) 0) q7.2.1).bind fun v12 =>
     (C 24 [v12] q7.2.1 (q7.2.2 + 9)).bind fun q13 =>
     (un .not q13.1).bind fun v14 =>
     let t16 : Tm := put (put (put (put (put (put (put (put (put (put (put t 3 (ptr (n) 0)) 4 (ptr (n + 1) 0)) 6 (ptr (n + 2) 0)) 7 (.int .i64 0)) 10 v6) 11 q7.1) 12 v8) 14 v12) 15 q13.1) 16 v14) 17 v14
     (gsel v14 false
       ((ld true 1 (ptr (n + 1) 0) q13.2.1).bind fun v17 =>
        (C 25 [v17, t16 2] q13.2.1 (q13.2.2)).bind fun q18 =>
        (un .not q18.1).bind fun v19 =>
        some (put (put (put (put t16 18 v17) 19 (t16 2)) 20 q18.1) 21 v19, q18.2.1, q18.2.2))
       (some (put (put (put (put t16 18 (.tuple #[])) 19 (.tuple #[])) 20 (.tuple #[])) 21 (.tuple #[]), q13.2.1, q13.2.2))
     ).bind fun (q15 : R3) =>
     (pickV (q15.1 17) (.bool true) (q15.1 21)).bind fun v20 =>
     csel v20
       ((ld true 1 (q15.1 3) q15.2.1).bind fun v21 =>
        (C 46 [v21] q15.2.1 (q15.2.2 + 4)).bind fun q22 =>
        (st true 1 (q15.1 6) q22.1 q22.2.1).bind fun H23 =>
        (ld true 1 (q15.1 6) H23).bind fun v24 =>
        iteK ([v24, .int .i64 (-1)].all notTup) <|
        some (.tuple ⟨[v24, .int .i64 (-1)]⟩, H23, q22.2.2))
       ((ld true 1 (q15.1 3) q15.2.1).bind fun v25 =>
        (C 46 [v25] q15.2.1 (q15.2.2 + 4)).bind fun q26 =>
        let H27 := q26.2.1.set (q15.2.2 + 2) (some (.row [nilS] 0 true))
        (st true 1 (ptr (q15.2.2 + 2) 0) q26.1 H27).bind fun H28 =>
        (ld true 1 (q15.1 4) H28).bind fun v29 =>
        (C 47 [ptr (q15.2.2 + 2) 0, v29, q15.1 2] H28 (q26.2.2 + 4)).bind fun q30 =>
        (fieldA 0 (ptr (q15.2.2 + 2) 0)).bind fun v31 =>
        (ld false 1 v31 q30.2.1).bind fun v32 =>
        (lenV false v32).bind fun v33 =>
        (binK .plain .gtr v33 (.int .i64 3000)).bind fun v34 =>
        csel v34
          ((ld true 1 (q15.1 3) q30.2.1).bind fun v35 =>
           (C 46 [v35] q30.2.1 (q30.2.2 + 8)).bind fun q36 =>
           (st true 1 (q15.1 6) q36.1 q36.2.1).bind fun H37 =>
           (ld true 1 (q15.1 6) H37).bind fun v38 =>
           iteK ([v38, .int .i64 (-1)].all notTup) <|
           some (.tuple ⟨[v38, .int .i64 (-1)]⟩, H37, q36.2.2))
          ((ld true 1 (ptr (q15.2.2 + 2) 0) q30.2.1).bind fun v39 =>
           (st true 1 (q15.1 6) v39 q30.2.1).bind fun H40 =>
           (ld true 1 (q15.1 6) H40).bind fun v41 =>
           iteK ([v41, q30.1].all notTup) <|
           some (.tuple ⟨[v41, q30.1]⟩, H40, q30.2.2 + 8))))
theorem s21 (C : Calling) (L : Body → Body) (t : Tm) (H : Hp) (n : Nat) : bodyK Try.prog C L Try.f21 t H n = S21 C L t H n := by kernel_rfl
theorem c21 (args : List Value) (H : Hp) (n : Nat) : Call Try.prog 21 args H n = S21 (Call Try.prog) Loop (argsT args) H n := (Call_body Try.func21 args H n).trans (s21 ..)
/-! 22: impl.PoolOk -/
noncomputable def S22L0 (C : Calling) (L : Body → Body) : Body := fun t H n =>
  (binK .plain .lss (t 8) (t 7)).bind fun v7 =>
  csel v7
    ((idxA 5 (t 6) (t 8)).bind fun v8 =>
     (ld true 5 v8 H).bind fun v9 =>
     let H10 := H.set (n + 4) (some (.row [.int .i64 0, .int .i64 0, .string ⟨#[]⟩, .int .i64 0, .int .i64 0] 0 true))
     (st true 5 (ptr (n + 4) 0) v9 H10).bind fun H11 =>
     (ld true 5 (ptr (n + 4) 0) H11).bind fun v12 =>
     (C 48 [v12, t 8] H11 (n + 11)).bind fun q13 =>
     (un .not q13.1).bind fun v14 =>
     csel v14
       (some ⟨.ret, put (put (put (put (put (put (put (put (put (put (put t 9 v7) 10 (t 8)) 11 v8) 12 v9) 4 (ptr (n + 4) 0)) 3 (t 8)) 13 v12) 14 (t 8)) 15 q13.1) 16 v14) 2 (.bool false), q13.2.1, q13.2.2 + 1⟩)
       ((binK .plain .add (t 8) (.int .i64 1)).bind fun v15 =>
        some ⟨.normal, put (put (put (put (put (put (put (put (put (put (put (put t 9 v7) 10 (t 8)) 11 v8) 12 v9) 4 (ptr (n + 4) 0)) 3 (t 8)) 13 v12) 14 (t 8)) 15 q13.1) 16 v14) 17 v15) 8 v15, q13.2.1, q13.2.2 + 2⟩))
    (some ⟨(.exit 0), put t 9 v7, H, n + 1⟩)
noncomputable def S22 (C : Calling) (L : Body → Body) (t : Tm) (H : Hp) (n : Nat) : Option (Value × Hp × Nat) :=
  (vcells (t 0)).bind fun c2 =>
  let H1 := H.set (n) (some (.row c2 0 true))
  (fieldA 0 (ptr (n) 0)).bind fun v3 =>
  (ld false 1 v3 H1).bind fun v4 =>
  (lenV false v4).bind fun v5 =>
  (L (S22L0 C L) (put (put (put (put (put (put t 1 (ptr (n) 0)) 2 (.bool false)) 5 v3) 6 v4) 7 v5) 8 (.int .i64 0)) H1 (n + 6)).bind fun (o6 : Out) =>
  let o16 := outOf 0 o6
  thenK o16
    ((fieldA 0 (o16.t 1)).bind fun v17 =>
     (ld false 1 v17 o16.H).bind fun v18 =>
     (lenV false v18).bind fun v19 =>
     (binK .plain .leq v19 (.int .i64 3000)).bind fun v20 =>
     some (v20, o16.H, o16.n + 5))
    (finE o16.e
       (some (o16.t 2, o16.H, o16.n)))
theorem s22 (C : Calling) (L : Body → Body) (t : Tm) (H : Hp) (n : Nat) : bodyK Try.prog C L Try.f22 t H n = S22 C L t H n := by kernel_rfl
theorem c22 (args : List Value) (H : Hp) (n : Nat) : Call Try.prog 22 args H n = S22 (Call Try.prog) Loop (argsT args) H n := (Call_body Try.func22 args H n).trans (s22 ..)
/-! 24: spec.PoolOk -/
noncomputable def S24L0 (C : Calling) (L : Body → Body) : Body := fun t H n =>
  (fieldA 0 (t 1)).bind fun v4 =>
  (ld false 1 v4 H).bind fun v5 =>
  (lenV false v5).bind fun v6 =>
  (binK .plain .lss (t 3) v6).bind fun v7 =>
  csel v7
    ((fieldA 0 (t 1)).bind fun v8 =>
     (ld false 1 v8 H).bind fun v9 =>
     (idxA 5 v9 (t 3)).bind fun v10 =>
     (ld true 5 v10 H).bind fun v11 =>
     (C 50 [v11, t 3] H (n + 13)).bind fun q12 =>
     (un .not q12.1).bind fun v13 =>
     csel v13
       (some ⟨.ret, put (put (put (put (put (put (put (put (put (put (put (put (put (put t 4 (t 3)) 5 v4) 6 v5) 7 v6) 8 v7) 11 v8) 12 v9) 13 (t 3)) 14 v10) 15 v11) 16 (t 3)) 17 q12.1) 18 v13) 2 (.bool false), q12.2.1, q12.2.2 + 1⟩)
       ((binK .plain .add (t 3) (.int .i64 1)).bind fun v14 =>
        some ⟨.normal, put (put (put (put (put (put (put (put (put (put (put (put (put (put (put (put t 4 (t 3)) 5 v4) 6 v5) 7 v6) 8 v7) 11 v8) 12 v9) 13 (t 3)) 14 v10) 15 v11) 16 (t 3)) 17 q12.1) 18 v13) 9 (t 3)) 10 v14) 3 v14, q12.2.1, q12.2.2 + 3⟩))
    (some ⟨(.exit 0), put (put (put (put (put t 4 (t 3)) 5 v4) 6 v5) 7 v6) 8 v7, H, n + 5⟩)
noncomputable def S24 (C : Calling) (L : Body → Body) (t : Tm) (H : Hp) (n : Nat) : Option (Value × Hp × Nat) :=
  (vcells (t 0)).bind fun c2 =>
  let H1 := H.set (n) (some (.row c2 0 true))
  (L (S24L0 C L) (put (put (put t 1 (ptr (n) 0)) 2 (.bool false)) 3 (.int .i64 0)) H1 (n + 3)).bind fun (o3 : Out) =>
  let o15 := outOf 0 o3
  thenK o15
    ((fieldA 0 (o15.t 1)).bind fun v16 =>
     (ld false 1 v16 o15.H).bind fun v17 =>
     (lenV false v17).bind fun v18 =>
     (binK .plain .leq v18 (.int .i64 3000)).bind fun v19 =>
     some (v19, o15.H, o15.n + 5))
    (finE o15.e
       (some (o15.t 2, o15.H, o15.n)))
theorem s24 (C : Calling) (L : Body → Body) (t : Tm) (H : Hp) (n : Nat) : bodyK Try.prog C L Try.f24 t H n = S24 C L t H n := by kernel_rfl
theorem c24 (args : List Value) (H : Hp) (n : Nat) : Call Try.prog 24 args H n = S24 (Call Try.prog) Loop (argsT args) H n := (Call_body Try.func24 args H n).trans (s24 ..)
/-! 25: spec.l2Has -/
noncomputable def S25 (C : Calling) (L : Body → Body) (t : Tm) (H : Hp) (n : Nat) : Option (Value × Hp × Nat) :=
  (vcells (t 0)).bind fun c2 =>
  let H1 := H.set (n) (some (.row c2 0 true))
  (fieldA 0 (ptr (n) 0)).bind fun v3 =>
  (ld false 1 v3 H1).bind fun v4 =>
  (lenV false v4).bind fun v5 =>
  (binK .plain .sub v5 (.int .i64 1)).bind fun v6 =>
  (C 51 [t 1, .int .i64 0, v6] H1 (n + 9)).bind fun q7 =>
  some (q7.1, q7.2.1, q7.2.2)
theorem s25 (C : Calling) (L : Body → Body) (t : Tm) (H : Hp) (n : Nat) : bodyK Try.prog C L Try.f25 t H n = S25 C L t H n := by kernel_rfl
theorem c25 (args : List Value) (H : Hp) (n : Nat) : Call Try.prog 25 args H n = S25 (Call Try.prog) Loop (argsT args) H n := (Call_body Try.func25 args H n).trans (s25 ..)
/-! 28: impl.isNode -/
noncomputable def S28 (C : Calling) (L : Body → Body) (t : Tm) (H : Hp) (n : Nat) : Option (Value × Hp × Nat) :=
  (vcells (t 0)).bind fun c2 =>
  let H1 := H.set (n) (some (.row c2 0 true))
  (fieldA 0 (ptr (n) 0)).bind fun v3 =>
  (ld false 1 v3 H1).bind fun v4 =>
  (lenV false v4).bind fun v5 =>
  (binK .plain .sub v5 (.int .i64 1)).bind fun v6 =>
  (C 54 [t 1, .int .i64 0, v6] H1 (n + 9)).bind fun q7 =>
  some (q7.1, q7.2.1, q7.2.2)
theorem s28 (C : Calling) (L : Body → Body) (t : Tm) (H : Hp) (n : Nat) : bodyK Try.prog C L Try.f28 t H n = S28 C L t H n := by kernel_rfl
theorem c28 (args : List Value) (H : Hp) (n : Nat) : Call Try.prog 28 args H n = S28 (Call Try.prog) Loop (argsT args) H n := (Call_body Try.func28 args H n).trans (s28 ..)
/-! 29: impl.writing).value -/
noncomputable def S29 (C : Calling) (L : Body → Body) (t : Tm) (H : Hp) (n : Nat) : Option (Value × Hp × Nat) :=
  (nilchk (t 0)).bind fun v1 =>
  (fieldA 0 v1).bind fun v2 =>
  (fieldA 0 v2).bind fun v3 =>
  (ld false 1 v3 H).bind fun v4 =>
  (idxA 5 v4 (t 1)).bind fun v5 =>
  (ld true 5 v5 H).bind fun v6 =>
  let H7 := H.set (n + 8) (some (.row [.int .i64 0, .int .i64 0, .string ⟨#[]⟩, .int .i64 0, .int .i64 0] 0 true))
  (st true 5 (ptr (n + 8) 0) v6 H7).bind fun H8 =>
  (C 30 [t 0] H8 (n + 13)).bind fun q9 =>
  let t11 : Tm := put (put (put (put (put (put (put (put (put (put (put (put t 5 (t 0)) 6 v1) 7 v2) 8 v3) 9 v4) 10 (t 1)) 11 v5) 12 v6) 4 (ptr (n + 8) 0)) 26 (t 0)) 27 q9.1) 25 q9.1
  (csel q9.1
    (some ⟨.normal, t11, q9.2.1, q9.2.2⟩)
    ((fieldA 0 (ptr (n + 8) 0)).bind fun v12 =>
     (ld false 1 v12 q9.2.1).bind fun v13 =>
     (binK .plain .eql v13 (.int .i64 1)).bind fun v14 =>
     let t16 : Tm := put (put (put (put t11 29 v12) 30 v13) 31 v14) 32 v14
     (gsel v14 false
       ((fieldA 0 (ptr (n + 8) 0)).bind fun v17 =>
        (ld false 1 v17 q9.2.1).bind fun v18 =>
        (binK .plain .eql v18 (.int .i64 5)).bind fun v19 =>
        some (put (put (put t16 33 v17) 34 v18) 35 v19, q9.2.1, q9.2.2 + 9))
       (some (put (put (put t16 33 (.tuple #[])) 34 (.tuple #[])) 35 (.tuple #[]), q9.2.1, q9.2.2 + 9))
     ).bind fun (q15 : R3) =>
     (pickV (q15.1 32) (.bool true) (q15.1 35)).bind fun v20 =>
     let t22 : Tm := put (put q15.1 36 v20) 28 v20
     (csel v20
       ((C 55 [t22 0, .string ⟨#[40]⟩] q15.2.1 (q15.2.2 + 2)).bind fun q23 =>
        (C 56 [t22 0, t22 1] q23.2.1 (q23.2.2 + 3)).bind fun q24 =>
        (C 55 [t22 0, .string ⟨#[41]⟩] q24.2.1 (q24.2.2 + 2)).bind fun q25 =>
        some ⟨.normal, put (put (put (put (put (put (put t22 37 (t22 0)) 38 q23.1) 39 (t22 0)) 40 (t22 1)) 41 q24.1) 42 (t22 0)) 43 q25.1, q25.2.1, q25.2.2⟩)
       ((fieldA 0 (t22 4)).bind fun v26 =>
        (ld false 1 v26 q15.2.1).bind fun v27 =>
        (binK .plain .eql v27 (.int .i64 2)).bind fun v28 =>
        let t30 : Tm := put (put (put (put t22 45 v26) 46 v27) 47 v28) 48 v28
        (gsel v28 true
          ((fieldA 1 (t30 4)).bind fun v31 =>
           (ld false 1 v31 q15.2.1).bind fun v32 =>
           (binK .plain .eql v32 (.int .i64 1)).bind fun v33 =>
           some (put (put (put t30 49 v31) 50 v32) 51 v33, q15.2.1, q15.2.2 + 9))
          (some (put (put (put t30 49 (.tuple #[])) 50 (.tuple #[])) 51 (.tuple #[]), q15.2.1, q15.2.2 + 9))
        ).bind fun (q29 : R3) =>
        (pickV (q29.1 48) (q29.1 51) (.bool false)).bind fun v34 =>
        let t36 : Tm := put (put q29.1 52 v34) 44 v34
        (csel v34
          ((C 55 [t36 0, .string ⟨#[35, 116]⟩] q29.2.1 (q29.2.2 + 2)).bind fun q37 =>
           some ⟨.normal, put (put t36 53 (t36 0)) 54 q37.1, q37.2.1, q37.2.2⟩)
          ((fieldA 0 (t36 4)).bind fun v38 =>
           (ld false 1 v38 q29.2.1).bind fun v39 =>
           (binK .plain .eql v39 (.int .i64 2)).bind fun v40 =>
           let t42 : Tm := put (put (put (put t36 56 v38) 57 v39) 58 v40) 55 v40
           (csel v40
             ((C 55 [t42 0, .string ⟨#[35, 102]⟩] q29.2.1 (q29.2.2 + 6)).bind fun q43 =>
              some ⟨.normal, put (put t42 59 (t42 0)) 60 q43.1, q43.2.1, q43.2.2⟩)
             ((fieldA 0 (t42 4)).bind fun v44 =>
              (ld false 1 v44 q29.2.1).bind fun v45 =>
              (binK .plain .eql v45 (.int .i64 3)).bind fun v46 =>
              let t48 : Tm := put (put (put (put t42 62 v44) 63 v45) 64 v46) 61 v46
              (csel v46
                ((fieldA 1 (t48 4)).bind fun v49 =>
                 (ld false 1 v49 q29.2.1).bind fun v50 =>
                 (C 57 [v50] q29.2.1 (q29.2.2 + 13)).bind fun q51 =>
                 (C 55 [t48 0, q51.1] q51.2.1 (q51.2.2)).bind fun q52 =>
                 some ⟨.normal, put (put (put (put (put t48 65 (t48 0)) 66 v49) 67 v50) 68 q51.1) 69 q52.1, q52.2.1, q52.2.2⟩)
                ((fieldA 0 (t48 4)).bind fun v53 =>
                 (ld false 1 v53 q29.2.1).bind fun v54 =>
                 (binK .plain .eql v54 (.int .i64 4)).bind fun v55 =>
                 let t57 : Tm := put (put (put (put t48 71 v53) 72 v54) 73 v55) 70 v55
                 (csel v55
                   ((fieldA 2 (t57 4)).bind fun v58 =>
                    (ld false 1 v58 q29.2.1).bind fun v59 =>
                    (C 55 [t57 0, v59] q29.2.1 (q29.2.2 + 16)).bind fun q60 =>
                    some ⟨.normal, put (put (put (put t57 74 (t57 0)) 75 v58) 76 v59) 77 q60.1, q60.2.1, q60.2.2⟩)
                   ((bsl (q29.2.2 + 13) 1 4 [.string ⟨#[]⟩] [(0, 1, .string ⟨#[35, 102, 117, 110]⟩), (1, 1, .string ⟨#[35, 107, 111, 110, 116]⟩), (2, 1, .string ⟨#[35, 112, 114, 105, 109]⟩), (3, 1, .string ⟨#[35, 112, 105, 100]⟩)] q29.2.1).bind fun p61 =>
                    (fieldA 0 (t57 4)).bind fun v62 =>
                    (ld false 1 v62 p61.2).bind fun v63 =>
                    (binK .plain .sub v63 (.int .i64 6)).bind fun v64 =>
                    (idxA 1 p61.1 v64).bind fun v65 =>
                    (ld false 1 v65 p61.2).bind fun v66 =>
                    (fieldA 1 (t57 4)).bind fun v67 =>
                    (ld false 1 v67 p61.2).bind fun v68 =>
                    (C 57 [v68] p61.2 (q29.2.2 + 24)).bind fun q69 =>
                    ask (ld false 1 v65 q69.2.1 = some v66) <|
                    ask (ld false 1 v62 q69.2.1 = some v63) <|
                    (binK .plain .add v66 q69.1).bind fun v70 =>
                    (C 55 [t57 0, v70] q69.2.1 (q69.2.2)).bind fun q71 =>
                    some ⟨.normal, put (put (put (put (put (put (put (put (put (put (put (put t57 13 (t57 0)) 14 p61.1) 15 v62) 16 v63) 17 v64) 18 v65) 19 v66) 20 v67) 21 v68) 22 q69.1) 23 v70) 24 q71.1, q71.2.1, q71.2.2⟩)
                 ).bind fun (o56 : Out) =>
                 some ⟨.normal, o56.t, o56.H, o56.n⟩)
              ).bind fun (o47 : Out) =>
              some ⟨.normal, o47.t, o47.H, o47.n⟩)
           ).bind fun (o41 : Out) =>
           some ⟨.normal, o41.t, o41.H, o41.n⟩)
        ).bind fun (o35 : Out) =>
        some ⟨.normal, o35.t, o35.H, o35.n⟩)
     ).bind fun (o21 : Out) =>
     some ⟨.normal, o21.t, o21.H, o21.n⟩)
  ).bind fun (o10 : Out) =>
  some (.tuple ⟨[]⟩, o10.H, o10.n)
theorem s29 (C : Calling) (L : Body → Body) (t : Tm) (H : Hp) (n : Nat) : bodyK Try.prog C L Try.f29 t H n = S29 C L t H n := by kernel_rfl
theorem c29 (args : List Value) (H : Hp) (n : Nat) : Call Try.prog 29 args H n = S29 (Call Try.prog) Loop (argsT args) H n := (Call_body Try.func29 args H n).trans (s29 ..)
/-! 30: impl.writing).full -/
noncomputable def S30 (C : Calling) (L : Body → Body) (t : Tm) (H : Hp) (n : Nat) : Option (Value × Hp × Nat) :=
  (nilchk (t 0)).bind fun v1 =>
  (fieldA 1 v1).bind fun v2 =>
  (ld false 1 v2 H).bind fun v3 =>
  (lenV false v3).bind fun v4 =>
  (binK .plain .gtr v4 (.int .i64 400)).bind fun v5 =>
  some (v5, H, n + 8)
theorem s30 (C : Calling) (L : Body → Body) (t : Tm) (H : Hp) (n : Nat) : bodyK Try.prog C L Try.f30 t H n = S30 C L t H n := by kernel_rfl
theorem c30 (args : List Value) (H : Hp) (n : Nat) : Call Try.prog 30 args H n = S30 (Call Try.prog) Loop (argsT args) H n := (Call_body Try.func30 args H n).trans (s30 ..)
/-! 36: spec.l1New -/
noncomputable def S36L0 (C : Calling) (L : Body → Body) : Body := fun t H n =>
  (lenV false (t 0)).bind fun v4 =>
  (binK .plain .lss (t 4) v4).bind fun v5 =>
  let t7 : Tm := put (put (put (put (put t 8 (t 4)) 9 (t 0)) 10 v4) 11 v5) 12 v5
  (gsel v5 true
    ((binK .plain .lss (t7 4) (.int .i64 4000)).bind fun v8 =>
     some (put (put t7 13 (t7 4)) 14 v8, H, n + 8))
    (some (put (put t7 13 (.tuple #[])) 14 (.tuple #[]), H, n + 8))
  ).bind fun (q6 : R3) =>
  (pickV (q6.1 12) (q6.1 14) (.bool false)).bind fun v9 =>
  csel v9
    ((binK .plain .mul (q6.1 3) (.int .i64 131)).bind fun v10 =>
     (idxA 1 (q6.1 0) (q6.1 4)).bind fun v11 =>
     (ld false 1 v11 q6.2.1).bind fun v12 =>
     (conv (.toInt .i64) (q6.2.2 + 6) v12 q6.2.1).bind fun p13 =>
     (binK .plain .add v10 p13.1).bind fun v14 =>
     (binK .plain .add v14 (.int .i64 7)).bind fun v15 =>
     (binK .plain .and v15 (.int .i64 1073741823)).bind fun v16 =>
     (binK .plain .add (q6.1 4) (.int .i64 1)).bind fun v17 =>
     some ⟨.normal, put (put (put (put (put (put (put (put (put (put (put (put (put (put (put q6.1 15 v9) 18 (q6.1 3)) 19 v10) 20 (q6.1 0)) 21 (q6.1 4)) 22 v11) 23 v12) 24 p13.1) 25 v14) 26 v15) 27 v16) 3 v16) 16 (q6.1 4)) 17 v17) 4 v17, p13.2, q6.2.2 + 14⟩)
    (some ⟨(.exit 0), put q6.1 15 v9, q6.2.1, q6.2.2⟩)
noncomputable def S36 (C : Calling) (L : Body → Body) (t : Tm) (H : Hp) (n : Nat) : Option (Value × Hp × Nat) :=
  (lenV false (t 0)).bind fun v1 =>
  (binK .plain .add (.int .i64 17000) v1).bind fun v2 =>
  (L (S36L0 C L) (put (put (put (put (put (put t 2 (.pointer none)) 5 (t 0)) 6 v1) 7 v2) 3 v2) 4 (.int .i64 0)) H (n + 6)).bind fun (o3 : Out) =>
  (bld [nilS, .int .i64 0, .int .i64 0] [(0, 1, o3.t 0), (2, 1, o3.t 3)]).bind fun v18 =>
  (vcells v18).bind fun c20 =>
  let H19 := o3.H.set (o3.n + 3) (some (.row c20 0 true))
  some (ptr (o3.n + 3) 0, H19, o3.n + 5)
theorem s36 (C : Calling) (L : Body → Body) (t : Tm) (H : Hp) (n : Nat) : bodyK Try.prog C L Try.f36 t H n = S36 C L t H n := by kernel_rfl
theorem c36 (args : List Value) (H : Hp) (n : Nat) : Call Try.prog 36 args H n = S36 (Call Try.prog) Loop (argsT args) H n := (Call_body Try.func36 args H n).trans (s36 ..)
/-! 37: spec.l2Draw -/
noncomputable def S37L0 (C : Calling) (L : Body → Body) : Body := fun t H n =>
  (fieldA 0 (t 3)).bind fun v37 =>
  (ld false 1 v37 H).bind fun v38 =>
  (lenV false v38).bind fun v39 =>
  (binK .plain .lss (t 5) v39).bind fun v40 =>
  csel v40
    ((fieldA 0 (t 3)).bind fun v41 =>
     (ld false 1 v41 H).bind fun v42 =>
     (idxA 5 v42 (t 5)).bind fun v43 =>
     (fieldA 0 v43).bind fun v44 =>
     (st false 1 v44 (.int .i64 1) H).bind fun H45 =>
     (binK .plain .add (t 5) (.int .i64 1)).bind fun v46 =>
     some ⟨.normal, put (put (put (put (put (put (put (put (put (put (put (put (put t 39 (t 5)) 40 v37) 41 v38) 42 v39) 43 v40) 46 v41) 47 v42) 48 (t 5)) 49 v43) 50 v44) 44 (t 5)) 45 v46) 5 v46, H45, n + 14⟩)
    (some ⟨(.exit 0), put (put (put (put (put t 39 (t 5)) 40 v37) 41 v38) 42 v39) 43 v40, H, n + 5⟩)
noncomputable def S37 (C : Calling) (L : Body → Body) (t : Tm) (H : Hp) (n : Nat) : Option (Value × Hp × Nat) :=
  let H1 := H.set (n) (some (.row [nilS] 0 true))
  (C 66 [t 0] H1 (n + 5)).bind fun q2 =>
  let H3 := q2.2.1.set (n + 3) (some (.row [nilS] 0 true))
  (st true 1 (ptr (n + 3) 0) q2.1 H3).bind fun H4 =>
  (fieldA 0 (ptr (n + 3) 0)).bind fun v5 =>
  (ld false 1 v5 H4).bind fun v6 =>
  (lenV false v6).bind fun v7 =>
  (binK .plain .gtr v7 (.int .i64 0)).bind fun v8 =>
  let t10 : Tm := put (put (put (put (put (put (put (put (put t 2 (ptr (n) 0)) 6 (t 0)) 7 q2.1) 3 (ptr (n + 3) 0)) 8 v5) 9 v6) 10 v7) 11 v8) 12 v8
  (gsel v8 true
    ((C 38 [t10 0, .int .i64 12] H4 (q2.2.2 + 8)).bind fun q11 =>
     some (put (put t10 13 (t10 0)) 14 q11.1, q11.2.1, q11.2.2))
    (some (put (put t10 13 (.tuple #[])) 14 (.tuple #[]), H4, q2.2.2 + 8))
  ).bind fun (q9 : R3) =>
  (pickV (q9.1 12) (q9.1 14) (.bool false)).bind fun v12 =>
  let t14 : Tm := put q9.1 15 v12
  (csel v12
    ((fieldA 0 (t14 3)).bind fun v15 =>
     (ld false 1 v15 q9.2.1).bind fun v16 =>
     (lenV false v16).bind fun v17 =>
     (C 39 [t14 0, v17] q9.2.1 (q9.2.2 + 6)).bind fun q18 =>
     (fieldA 0 (t14 3)).bind fun v19 =>
     (ld false 1 v19 q18.2.1).bind fun v20 =>
     (fieldA 0 (t14 3)).bind fun v21 =>
     (ld false 1 v21 q18.2.1).bind fun v22 =>
     (idxA 5 v22 q18.1).bind fun v23 =>
     (ld true 5 v23 q18.2.1).bind fun v24 =>
     (C 67 [t14 0, v24] q18.2.1 (q18.2.2 + 12)).bind fun q25 =>
     ask (ld false 1 v19 q25.2.1 = some v20) <|
     (idxA 5 v20 q18.1).bind fun v26 =>
     (st true 5 v26 q25.1 q25.2.1).bind fun H27 =>
     some ⟨.normal, put (put (put (put (put (put (put (put (put (put (put (put (put (put (put (put (put t14 16 (t14 0)) 17 v15) 18 v16) 19 v17) 20 q18.1) 4 q18.1) 21 v19) 22 v20) 23 q18.1) 24 (t14 0)) 25 v21) 26 v22) 27 q18.1) 28 v23) 29 v24) 30 q25.1) 31 v26, H27, q25.2.2⟩)
    (some ⟨.normal, t14, q9.2.1, q9.2.2⟩)
  ).bind fun (o13 : Out) =>
  (C 38 [o13.t 0, .int .i64 60] o13.H (o13.n + 2)).bind fun q28 =>
  let t30 : Tm := put (put o13.t 32 (o13.t 0)) 33 q28.1
  (csel q28.1
    ((C 39 [t30 0, .int .i64 2] q28.2.1 (q28.2.2 + 6)).bind fun q31 =>
     (binK .plain .add (.int .i64 3000) q31.1).bind fun v32 =>
     (mks (q28.2.2 + 3) 5 48 [.int .i64 0, .int .i64 0, .string ⟨#[]⟩, .int .i64 0, .int .i64 0] v32 v32 q31.2.1).bind fun p33 =>
     (fieldA 0 (t30 3)).bind fun v34 =>
     (st false 1 v34 p33.1 p33.2).bind fun H35 =>
     (L (S37L0 C L) (put (put (put (put (put (put t30 34 (t30 0)) 35 q31.1) 36 v32) 37 p33.1) 38 v34) 5 (.int .i64 0)) H35 (q31.2.2 + 1)).bind fun (o36 : Out) =>
     some ⟨.normal, o36.t, o36.H, o36.n⟩)
    (some ⟨.normal, t30, q28.2.1, q28.2.2⟩)
  ).bind fun (o29 : Out) =>
  (ld true 1 (o29.t 3) o29.H).bind fun v47 =>
  (st true 1 (o29.t 2) v47 o29.H).bind fun H48 =>
  (ld true 1 (o29.t 2) H48).bind fun v49 =>
  some (v49, H48, o29.n + 2)
theorem s37 (C : Calling) (L : Body → Body) (t : Tm) (H : Hp) (n : Nat) : bodyK Try.prog C L Try.f37 t H n = S37 C L t H n := by kernel_rfl
theorem c37 (args : List Value) (H : Hp) (n : Nat) : Call Try.prog 37 args H n = S37 (Call Try.prog) Loop (argsT args) H n := (Call_body Try.func37 args H n).trans (s37 ..)
/-! 38: spec.l1Once -/
noncomputable def S38 (C : Calling) (L : Body → Body) (t : Tm) (H : Hp) (n : Nat) : Option (Value × Hp × Nat) :=
  (C 39 [t 0, t 1] H (n + 6)).bind fun q1 =>
  (binK .plain .eql q1.1 (.int .i64 0)).bind fun v2 =>
  some (v2, q1.2.1, q1.2.2)
theorem s38 (C : Calling) (L : Body → Body) (t : Tm) (H : Hp) (n : Nat) : bodyK Try.prog C L Try.f38 t H n = S38 C L t H n := by kernel_rfl
theorem c38 (args : List Value) (H : Hp) (n : Nat) : Call Try.prog 38 args H n = S38 (Call Try.prog) Loop (argsT args) H n := (Call_body Try.func38 args H n).trans (s38 ..)
/-! 39: spec.l1Below -/
noncomputable def S39 (C : Calling) (L : Body → Body) (t : Tm) (H : Hp) (n : Nat) : Option (Value × Hp × Nat) :=
  (binK .plain .leq (t 1) (.int .i64 0)).bind fun v1 =>
  csel v1
    (some (.int .i64 0, H, n + 4))
    ((binK .plain .leq (t 1) (.int .i64 256)).bind fun v2 =>
     csel v2
       ((C 68 [t 0] H (n + 10)).bind fun q3 =>
        (binK .plain .rem q3.1 (t 1)).bind fun v4 =>
        some (v4, q3.2.1, q3.2.2))
       ((C 68 [t 0] H (n + 8)).bind fun q5 =>
        (C 68 [t 0] q5.2.1 (q5.2.2 + 3)).bind fun q6 =>
        (C 68 [t 0] q6.2.1 (q6.2.2 + 3)).bind fun q7 =>
        (C 68 [t 0] q7.2.1 (q7.2.2 + 3)).bind fun q8 =>
        (binK .plain .mul q5.1 (.int .i64 16777216)).bind fun v9 =>
        (binK .plain .mul q6.1 (.int .i64 65536)).bind fun v10 =>
        (binK .plain .add v9 v10).bind fun v11 =>
        (binK .plain .mul q7.1 (.int .i64 256)).bind fun v12 =>
        (binK .plain .add v11 v12).bind fun v13 =>
        (binK .plain .add v13 q8.1).bind fun v14 =>
        (binK .plain .rem v14 (t 1)).bind fun v15 =>
        some (v15, q8.2.1, q8.2.2 + 13)))
theorem s39 (C : Calling) (L : Body → Body) (t : Tm) (H : Hp) (n : Nat) : bodyK Try.prog C L Try.f39 t H n = S39 C L t H n := by kernel_rfl
theorem c39 (args : List Value) (H : Hp) (n : Nat) : Call Try.prog 39 args H n = S39 (Call Try.prog) Loop (argsT args) H n := (Call_body Try.func39 args H n).trans (s39 ..)
/-! 40: spec.l2Add -/
noncomputable def S40 (C : Calling) (L : Body → Body) (t : Tm) (H : Hp) (n : Nat) : Option (Value × Hp × Nat) :=
  (vcells (t 1)).bind fun c2 =>
  let H1 := H.set (n) (some (.row c2 0 true))
  (nilchk (t 0)).bind fun v3 =>
  (fieldA 0 v3).bind fun v4 =>
  (ld false 1 v4 H1).bind fun v5 =>
  (ld true 5 (ptr (n) 0) H1).bind fun v6 =>
  (bsl (n + 8) 5 1 [.int .i64 0, .int .i64 0, .string ⟨#[]⟩, .int .i64 0, .int .i64 0] [(0, 5, v6)] H1).bind fun p7 =>
  (app (n + 9) 5 48 v5 p7.1 p7.2).bind fun p8 =>
  (nilchk (t 0)).bind fun v9 =>
  (fieldA 0 v9).bind fun v10 =>
  (st false 1 v10 p8.1 p8.2).bind fun H11 =>
  (nilchk (t 0)).bind fun v12 =>
  (fieldA 0 v12).bind fun v13 =>
  (ld false 1 v13 H11).bind fun v14 =>
  (lenV false v14).bind fun v15 =>
  (binK .plain .sub v15 (.int .i64 1)).bind fun v16 =>
  some (v16, H11, n + 20)
theorem s40 (C : Calling) (L : Body → Body) (t : Tm) (H : Hp) (n : Nat) : bodyK Try.prog C L Try.f40 t H n = S40 C L t H n := by kernel_rfl
theorem c40 (args : List Value) (H : Hp) (n : Nat) : Call Try.prog 40 args H n = S40 (Call Try.prog) Loop (argsT args) H n := (Call_body Try.func40 args H n).trans (s40 ..)
/-! 41: spec.l2DrawAt -/
noncomputable def S41 (C : Calling) (L : Body → Body) (t : Tm) (H : Hp) (n : Nat) : Option (Value × Hp × Nat) :=
  (vcells (t 1)).bind fun c2 =>
  let H1 := H.set (n) (some (.row c2 0 true))
  (fieldA 0 (ptr (n) 0)).bind fun v3 =>
  (ld false 1 v3 H1).bind fun v4 =>
  (lenV false v4).bind fun v5 =>
  (binK .plain .eql v5 (.int .i64 0)).bind fun v6 =>
  let t8 : Tm := put (put (put (put (put (put (put t 3 (ptr (n) 0)) 4 (.int .i64 0)) 5 v3) 6 v4) 7 v5) 8 v6) 9 v6
  (gsel v6 false
    ((C 38 [t8 0, .int .i64 20] H1 (n + 10)).bind fun q9 =>
     some (put (put t8 10 (t8 0)) 11 q9.1, q9.2.1, q9.2.2))
    (some (put (put t8 10 (.tuple #[])) 11 (.tuple #[]), H1, n + 10))
  ).bind fun (q7 : R3) =>
  (pickV (q7.1 9) (.bool true) (q7.1 11)).bind fun v10 =>
  csel v10
    ((fieldA 0 (q7.1 3)).bind fun v11 =>
     (ld false 1 v11 q7.2.1).bind fun v12 =>
     (lenV false v12).bind fun v13 =>
     (bsl (q7.2.2 + 4) 1 3 [.int .i64 0] [(0, 1, .int .i64 (-1)), (1, 1, .int .i64 0), (2, 1, v13)] q7.2.1).bind fun p14 =>
     (C 69 [q7.1 0, p14.1] p14.2 (q7.2.2 + 7)).bind fun q15 =>
     some (q15.1, q15.2.1, q15.2.2))
    ((fieldA 0 (q7.1 3)).bind fun v16 =>
     (ld false 1 v16 q7.2.1).bind fun v17 =>
     (lenV false v17).bind fun v18 =>
     (binK .plain .sub v18 (.int .i64 1)).bind fun v19 =>
     (fieldA 0 (q7.1 3)).bind fun v20 =>
     (ld false 1 v20 q7.2.1).bind fun v21 =>
     (lenV false v21).bind fun v22 =>
     (C 70 [v22, .int .i64 9] q7.2.1 (q7.2.2 + 12)).bind fun q23 =>
     ask (ld false 1 v16 q23.2.1 = some v17) <|
     (C 39 [q7.1 0, q23.1] q23.2.1 (q23.2.2)).bind fun q24 =>
     ask (ld false 1 v16 q24.2.1 = some v17) <|
     (binK .plain .sub v19 q24.1).bind fun v25 =>
     some (v25, q24.2.1, q24.2.2))
theorem s41 (C : Calling) (L : Body → Body) (t : Tm) (H : Hp) (n : Nat) : bodyK Try.prog C L Try.f41 t H n = S41 C L t H n := by kernel_rfl
theorem c41 (args : List Value) (H : Hp) (n : Nat) : Call Try.prog 41 args H n = S41 (Call Try.prog) Loop (argsT args) H n := (Call_body Try.func41 args H n).trans (s41 ..)
/-! 44: impl.copyPool -/
noncomputable def S44 (C : Calling) (L : Body → Body) (t : Tm) (H : Hp) (n : Nat) : Option (Value × Hp × Nat) :=
  (vcells (t 0)).bind fun c2 =>
  let H1 := H.set (n) (some (.row c2 0 true))
  let H3 := H1.set (n + 1) (some (.row [nilS] 0 true))
  (fieldA 0 (ptr (n) 0)).bind fun v4 =>
  (ld false 1 v4 H3).bind fun v5 =>
  (C 71 [v5] H3 (n + 7)).bind fun q6 =>
  (bld [nilS] [(0, 1, q6.1)]).bind fun v7 =>
  (st true 1 (ptr (n + 1) 0) v7 q6.2.1).bind fun H8 =>
  (ld true 1 (ptr (n + 1) 0) H8).bind fun v9 =>
  some (v9, H8, q6.2.2)
theorem s44 (C : Calling) (L : Body → Body) (t : Tm) (H : Hp) (n : Nat) : bodyK Try.prog C L Try.f44 t H n = S44 C L t H n := by kernel_rfl
theorem c44 (args : List Value) (H : Hp) (n : Nat) : Call Try.prog 44 args H n = S44 (Call Try.prog) Loop (argsT args) H n := (Call_body Try.func44 args H n).trans (s44 ..)
/-! 45: impl.Pool).copyFrom -/
noncomputable def S45 (C : Calling) (L : Body → Body) (t : Tm) (H : Hp) (n : Nat) : Option (Value × Hp × Nat) :=
  (vcells (t 1)).bind fun c2 =>
  let H1 := H.set (n) (some (.row c2 0 true))
  (ld true 1 (ptr (n) 0) H1).bind fun v3 =>
  (bsl (n + 5) 1 1 [.int .i64 0] [(0, 1, t 2)] H1).bind fun p4 =>
  (C 63 [t 0, v3, p4.1] p4.2 (n + 11)).bind fun q5 =>
  (idxA 1 q5.1 (t 2)).bind fun v6 =>
  (ld false 1 v6 q5.2.1).bind fun v7 =>
  some (v7, q5.2.1, q5.2.2)
theorem s45 (C : Calling) (L : Body → Body) (t : Tm) (H : Hp) (n : Nat) : bodyK Try.prog C L Try.f45 t H n = S45 C L t H n := by kernel_rfl
theorem c45 (args : List Value) (H : Hp) (n : Nat) : Call Try.prog 45 args H n = S45 (Call Try.prog) Loop (argsT args) H n := (Call_body Try.func45 args H n).trans (s45 ..)
/-! 46: spec.l2Copy -/
noncomputable def S46 (C : Calling) (L : Body → Body) (t : Tm) (H : Hp) (n : Nat) : Option (Value × Hp × Nat) :=
  (vcells (t 0)).bind fun c2 =>
  let H1 := H.set (n) (some (.row c2 0 true))
  let H3 := H1.set (n + 1) (some (.row [nilS] 0 true))
  (bsl (n + 2) 5 0 [.int .i64 0, .int .i64 0, .string ⟨#[]⟩, .int .i64 0, .int .i64 0] [] H3).bind fun p4 =>
  (fieldA 0 (ptr (n) 0)).bind fun v5 =>
  (ld false 1 v5 p4.2).bind fun v6 =>
  (app (n + 5) 5 48 p4.1 v6 p4.2).bind fun p7 =>
  (bld [nilS] [(0, 1, p7.1)]).bind fun v8 =>
  (st true 1 (ptr (n + 1) 0) v8 p7.2).bind fun H9 =>
  (ld true 1 (ptr (n + 1) 0) H9).bind fun v10 =>
  some (v10, H9, n + 8)
theorem s46 (C : Calling) (L : Body → Body) (t : Tm) (H : Hp) (n : Nat) : bodyK Try.prog C L Try.f46 t H n = S46 C L t H n := by kernel_rfl
theorem c46 (args : List Value) (H : Hp) (n : Nat) : Call Try.prog 46 args H n = S46 (Call Try.prog) Loop (argsT args) H n := (Call_body Try.func46 args H n).trans (s46 ..)
/-! 47: spec.l7Copy -/
noncomputable def S47 (C : Calling) (L : Body → Body) (t : Tm) (H : Hp) (n : Nat) : Option (Value × Hp × Nat) :=
  (vcells (t 1)).bind fun c2 =>
  let H1 := H.set (n) (some (.row c2 0 true))
  (ld true 1 (ptr (n) 0) H1).bind fun v3 =>
  (ld true 1 (ptr (n) 0) H1).bind fun v4 =>
  (bsl (n + 6) 1 1 [.int .i64 0] [(0, 1, t 2)] H1).bind fun p5 =>
  (C 60 [v4, p5.1] p5.2 (n + 13)).bind fun q6 =>
  ask (ld true 1 (ptr (n) 0) q6.2.1 = some v3) <|
  (C 59 [t 0, v3, q6.1] q6.2.1 (q6.2.2)).bind fun q7 =>
  (idxA 1 q7.1 (t 2)).bind fun v8 =>
  (ld false 1 v8 q7.2.1).bind fun v9 =>
  some (v9, q7.2.1, q7.2.2)
theorem s47 (C : Calling) (L : Body → Body) (t : Tm) (H : Hp) (n : Nat) : bodyK Try.prog C L Try.f47 t H n = S47 C L t H n := by kernel_rfl
theorem c47 (args : List Value) (H : Hp) (n : Nat) : Call Try.prog 47 args H n = S47 (Call Try.prog) Loop (argsT args) H n := (Call_body Try.func47 args H n).trans (s47 ..)
/-! 48: impl.nodeOk -/
noncomputable def S48 (C : Calling) (L : Body → Body) (t : Tm) (H : Hp) (n : Nat) : Option (Value × Hp × Nat) :=
  (vcells (t 0)).bind fun c2 =>
  let H1 := H.set (n) (some (.row c2 0 true))
  (fieldA 2 (ptr (n) 0)).bind fun v3 =>
  (ld false 1 v3 H1).bind fun v4 =>
  (binK .plain .eql v4 (.string ⟨#[]⟩)).bind fun v5 =>
  (fieldA 3 (ptr (n) 0)).bind fun v6 =>
  (ld false 1 v6 H1).bind fun v7 =>
  (binK .plain .eql v7 (.int .i64 0)).bind fun v8 =>
  (fieldA 4 (ptr (n) 0)).bind fun v9 =>
  (ld false 1 v9 H1).bind fun v10 =>
  (binK .plain .eql v10 (.int .i64 0)).bind fun v11 =>
  (fieldA 0 (ptr (n) 0)).bind fun v12 =>
  (ld false 1 v12 H1).bind fun v13 =>
  (binK .plain .eql v13 (.int .i64 1)).bind fun v14 =>
  let t16 : Tm := put (put (put (put (put (put (put (put (put (put (put (put (put (put (put (put (put (put (put (put t 2 (ptr (n) 0)) 4 (.bool false)) 10 v3) 11 v4) 12 v5) 5 (.int .i64 0)) 6 (.int .i64 0)) 7 v5) 13 v6) 14 v7) 15 v8) 16 v9) 17 v10) 18 v11) 8 v8) 9 v11) 19 v12) 20 v13) 22 v14) 21 v14
  (csel v14
    (some ⟨.normal, t16, H1, n + 20⟩)
    ((binK .plain .eql v13 (.int .i64 2)).bind fun v17 =>
     let t19 : Tm := put (put t16 24 v17) 23 v17
     (csel v17
       (some ⟨.normal, put t19 6 (.int .i64 1), H1, n + 23⟩)
       ((binK .plain .eql v13 (.int .i64 3)).bind fun v20 =>
        let t22 : Tm := put (put t19 26 v20) 25 v20
        (csel v20
          (some ⟨.normal, put (put t22 5 (.int .i64 (-1000000000))) 6 (.int .i64 1000000000), H1, n + 26⟩)
          ((binK .plain .eql v13 (.int .i64 4)).bind fun v23 =>
           let t25 : Tm := put (put t22 28 v23) 27 v23
           (csel v23
             ((fieldA 2 (ptr (n) 0)).bind fun v26 =>
              (ld false 1 v26 H1).bind fun v27 =>
              (C 72 [v27] H1 (n + 30)).bind fun q28 =>
              some ⟨.normal, put (put (put (put t25 29 v26) 30 v27) 31 q28.1) 7 q28.1, q28.2.1, q28.2.2⟩)
             ((binK .plain .eql v13 (.int .i64 5)).bind fun v29 =>
              let t31 : Tm := put (put t25 33 v29) 32 v29
              (csel v29
                ((fieldA 3 (ptr (n) 0)).bind fun v32 =>
                 (ld false 1 v32 H1).bind fun v33 =>
                 (binK .plain .sub (t31 1) (.int .i64 1)).bind fun v34 =>
                 (C 54 [v33, .int .i64 0, v34] H1 (n + 40)).bind fun q35 =>
                 (fieldA 4 (ptr (n) 0)).bind fun v36 =>
                 (ld false 1 v36 q35.2.1).bind fun v37 =>
                 ask (ld false 1 v36 H1 = some v37) <|
                 (binK .plain .sub (t31 1) (.int .i64 1)).bind fun v38 =>
                 (C 54 [v37, .int .i64 0, v38] q35.2.1 (q35.2.2)).bind fun q39 =>
                 some ⟨.normal, put (put (put (put (put (put (put (put (put (put (put (put t31 34 v32) 35 v33) 36 (t31 1)) 37 v34) 38 q35.1) 39 v36) 40 v37) 41 (t31 1)) 42 v38) 43 q39.1) 8 q35.1) 9 q39.1, q39.2.1, q39.2.2⟩)
                ((binK .plain .eql v13 (.int .i64 6)).bind fun v40 =>
                 let t42 : Tm := put (put t31 45 v40) 44 v40
                 (csel v40
                   ((fieldA 3 (ptr (n) 0)).bind fun v43 =>
                    (ld false 1 v43 H1).bind fun v44 =>
                    (binK .plain .sub (t42 1) (.int .i64 1)).bind fun v45 =>
                    (C 54 [v44, .int .i64 0, v45] H1 (n + 37)).bind fun q46 =>
                    some ⟨.normal, put (put (put (put (put (put (put t42 46 v43) 47 v44) 48 (t42 1)) 49 v45) 50 q46.1) 6 (.int .i64 1000000000)) 8 q46.1, q46.2.1, q46.2.2⟩)
                   ((binK .plain .eql v13 (.int .i64 7)).bind fun v47 =>
                    let t49 : Tm := put (put t42 52 v47) 51 v47
                    (csel v47
                      ((fieldA 3 (ptr (n) 0)).bind fun v50 =>
                       (ld false 1 v50 H1).bind fun v51 =>
                       (binK .plain .sub (t49 1) (.int .i64 1)).bind fun v52 =>
                       (C 54 [v51, .int .i64 0, v52] H1 (n + 38)).bind fun q53 =>
                       some ⟨.normal, put (put (put (put (put (put t49 53 v50) 54 v51) 55 (t49 1)) 56 v52) 57 q53.1) 8 q53.1, q53.2.1, q53.2.2⟩)
                      ((binK .plain .eql v13 (.int .i64 8)).bind fun v54 =>
                       let t56 : Tm := put (put t49 59 v54) 58 v54
                       (csel v54
                         (some ⟨.normal, put t56 6 (.int .i64 99), H1, n + 35⟩)
                         ((binK .plain .eql v13 (.int .i64 9)).bind fun v57 =>
                          csel v57
                            (some ⟨.normal, put (put (put t56 61 v57) 60 v57) 6 (.int .i64 1000000000), H1, n + 37⟩)
                            (some ⟨.ret, put (put (put t56 61 v57) 60 v57) 4 (.bool false), H1, n + 37⟩))
                       ).bind fun (o55 : Out) =>
                       some o55)
                    ).bind fun (o48 : Out) =>
                    some o48)
                 ).bind fun (o41 : Out) =>
                 some o41)
              ).bind fun (o30 : Out) =>
              some o30)
           ).bind fun (o24 : Out) =>
           some o24)
        ).bind fun (o21 : Out) =>
        some o21)
     ).bind fun (o18 : Out) =>
     some o18)
  ).bind fun (o15 : Out) =>
  let o58 := outOf 0 o15
  thenK o58
    ((fieldA 1 (o58.t 2)).bind fun v59 =>
     (ld false 1 v59 o58.H).bind fun v60 =>
     (C 54 [v60, o58.t 5, o58.t 6] o58.H (o58.n + 15)).bind fun q61 =>
     (pickV q61.1 (gsel q61.1 true (o58.t 7) (.tuple #[])) (.bool false)).bind fun v62 =>
     (pickV v62 (gsel v62 true (o58.t 8) (.tuple #[])) (.bool false)).bind fun v63 =>
     (pickV v63 (gsel v63 true (o58.t 9) (.tuple #[])) (.bool false)).bind fun v64 =>
     some (v64, q61.2.1, q61.2.2))
    (finE o58.e
       (some (o58.t 4, o58.H, o58.n)))
theorem s48 (C : Calling) (L : Body → Body) (t : Tm) (H : Hp) (n : Nat) : bodyK Try.prog C L Try.f48 t H n = S48 C L t H n := by kernel_rfl
theorem c48 (args : List Value) (H : Hp) (n : Nat) : Call Try.prog 48 args H n = S48 (Call Try.prog) Loop (argsT args) H n := (Call_body Try.func48 args H n).trans (s48 ..)
/-! 50: spec.l2Node -/
noncomputable def S50 (C : Calling) (L : Body → Body) (t : Tm) (H : Hp) (n : Nat) : Option (Value × Hp × Nat) :=
  (vcells (t 0)).bind fun c2 =>
  let H1 := H.set (n) (some (.row c2 0 true))
  (fieldA 3 (ptr (n) 0)).bind fun v3 =>
  (ld false 1 v3 H1).bind fun v4 =>
  (binK .plain .sub (t 1) (.int .i64 1)).bind fun v5 =>
  (C 51 [v4, .int .i64 0, v5] H1 (n + 8)).bind fun q6 =>
  (fieldA 4 (ptr (n) 0)).bind fun v7 =>
  (ld false 1 v7 q6.2.1).bind fun v8 =>
  (binK .plain .sub (t 1) (.int .i64 1)).bind fun v9 =>
  (C 51 [v8, .int .i64 0, v9] q6.2.1 (q6.2.2 + 6)).bind fun q10 =>
  (fieldA 0 (ptr (n) 0)).bind fun v11 =>
  (ld false 1 v11 q10.2.1).bind fun v12 =>
  (binK .plain .eql v12 (.int .i64 1)).bind fun v13 =>
  csel v13
    ((ld true 5 (ptr (n) 0) q10.2.1).bind fun v14 =>
     (bld [.int .i64 0, .int .i64 0, .string ⟨#[]⟩, .int .i64 0, .int .i64 0] [(0, 1, .int .i64 1)]).bind fun v15 =>
     (binK (.agg [(0, (.int .i64)), (1, (.int .i64)), (2, .string), (3, (.int .i64)), (4, (.int .i64))]) .eql v14 v15).bind fun v16 =>
     some (v16, q10.2.1, q10.2.2 + 8))
    ((binK .plain .eql v12 (.int .i64 2)).bind fun v17 =>
     csel v17
       ((fieldA 1 (ptr (n) 0)).bind fun v18 =>
        (ld false 1 v18 q10.2.1).bind fun v19 =>
        (C 51 [v19, .int .i64 0, .int .i64 1] q10.2.1 (q10.2.2 + 17)).bind fun q20 =>
        let t22 : Tm := put (put (put (put (put (put (put (put (put (put (put (put (put (put (put (put (put (put (put (put (put (put (put (put t 2 (ptr (n) 0)) 4 (.bool false)) 7 v3) 8 v4) 9 (t 1)) 10 v5) 11 q6.1) 5 q6.1) 12 v7) 13 v8) 14 (t 1)) 15 v9) 16 q10.1) 6 q10.1) 17 v11) 18 v12) 20 v13) 19 v13) 25 v17) 24 v17) 26 v18) 27 v19) 28 q20.1) 29 q20.1
        (gsel q20.1 true
          ((ld true 5 (ptr (n) 0) q20.2.1).bind fun v23 =>
           (fieldA 1 (ptr (n) 0)).bind fun v24 =>
           (ld false 1 v24 q20.2.1).bind fun v25 =>
           (bld [.int .i64 0, .int .i64 0, .string ⟨#[]⟩, .int .i64 0, .int .i64 0] [(0, 1, .int .i64 2), (1, 1, v25)]).bind fun v26 =>
           (binK (.agg [(0, (.int .i64)), (1, (.int .i64)), (2, .string), (3, (.int .i64)), (4, (.int .i64))]) .eql v23 v26).bind fun v27 =>
           some (put (put (put (put (put t22 30 v23) 31 v24) 32 v25) 33 v26) 34 v27, q20.2.1, q20.2.2))
          (some (put (put (put (put (put t22 30 (.tuple #[])) 31 (.tuple #[])) 32 (.tuple #[])) 33 (.tuple #[])) 34 (.tuple #[]), q20.2.1, q20.2.2))
        ).bind fun (q21 : R3) =>
        (pickV (q21.1 29) (q21.1 34) (.bool false)).bind fun v28 =>
        some (v28, q21.2.1, q21.2.2))
       ((binK .plain .eql v12 (.int .i64 3)).bind fun v29 =>
        csel v29
          ((fieldA 1 (ptr (n) 0)).bind fun v30 =>
           (ld false 1 v30 q10.2.1).bind fun v31 =>
           (C 51 [v31, .int .i64 (-1000000000), .int .i64 1000000000] q10.2.1 (q10.2.2 + 19)).bind fun q32 =>
           let t34 : Tm := put (put (put (put (put (put (put (put (put (put (put (put (put (put (put (put (put (put (put (put (put (put (put (put (put (put t 2 (ptr (n) 0)) 4 (.bool false)) 7 v3) 8 v4) 9 (t 1)) 10 v5) 11 q6.1) 5 q6.1) 12 v7) 13 v8) 14 (t 1)) 15 v9) 16 q10.1) 6 q10.1) 17 v11) 18 v12) 20 v13) 19 v13) 25 v17) 24 v17) 37 v29) 36 v29) 38 v30) 39 v31) 40 q32.1) 41 q32.1
           (gsel q32.1 true
             ((ld true 5 (ptr (n) 0) q32.2.1).bind fun v35 =>
              (fieldA 1 (ptr (n) 0)).bind fun v36 =>
              (ld false 1 v36 q32.2.1).bind fun v37 =>
              (bld [.int .i64 0, .int .i64 0, .string ⟨#[]⟩, .int .i64 0, .int .i64 0] [(0, 1, .int .i64 3), (1, 1, v37)]).bind fun v38 =>
              (binK (.agg [(0, (.int .i64)), (1, (.int .i64)), (2, .string), (3, (.int .i64)), (4, (.int .i64))]) .eql v35 v38).bind fun v39 =>
              some (put (put (put (put (put t34 42 v35) 43 v36) 44 v37) 45 v38) 46 v39, q32.2.1, q32.2.2))
             (some (put (put (put (put (put t34 42 (.tuple #[])) 43 (.tuple #[])) 44 (.tuple #[])) 45 (.tuple #[])) 46 (.tuple #[]), q32.2.1, q32.2.2))
           ).bind fun (q33 : R3) =>
           (pickV (q33.1 41) (q33.1 46) (.bool false)).bind fun v40 =>
           some (v40, q33.2.1, q33.2.2))
          ((binK .plain .eql v12 (.int .i64 4)).bind fun v41 =>
           csel v41
             ((fieldA 2 (ptr (n) 0)).bind fun v42 =>
              (ld false 1 v42 q10.2.1).bind fun v43 =>
              (C 73 [v43] q10.2.1 (q10.2.2 + 21)).bind fun q44 =>
              let t46 : Tm := put (put (put (put (put (put (put (put (put (put (put (put (put (put (put (put (put (put (put (put (put (put (put (put (put (put (put (put t 2 (ptr (n) 0)) 4 (.bool false)) 7 v3) 8 v4) 9 (t 1)) 10 v5) 11 q6.1) 5 q6.1) 12 v7) 13 v8) 14 (t 1)) 15 v9) 16 q10.1) 6 q10.1) 17 v11) 18 v12) 20 v13) 19 v13) 25 v17) 24 v17) 37 v29) 36 v29) 49 v41) 48 v41) 50 v42) 51 v43) 52 q44.1) 53 q44.1
              (gsel q44.1 true
                ((ld true 5 (ptr (n) 0) q44.2.1).bind fun v47 =>
                 (fieldA 2 (ptr (n) 0)).bind fun v48 =>
                 (ld false 1 v48 q44.2.1).bind fun v49 =>
                 (bld [.int .i64 0, .int .i64 0, .string ⟨#[]⟩, .int .i64 0, .int .i64 0] [(0, 1, .int .i64 4), (2, 1, v49)]).bind fun v50 =>
                 (binK (.agg [(0, (.int .i64)), (1, (.int .i64)), (2, .string), (3, (.int .i64)), (4, (.int .i64))]) .eql v47 v50).bind fun v51 =>
                 some (put (put (put (put (put t46 54 v47) 55 v48) 56 v49) 57 v50) 58 v51, q44.2.1, q44.2.2))
                (some (put (put (put (put (put t46 54 (.tuple #[])) 55 (.tuple #[])) 56 (.tuple #[])) 57 (.tuple #[])) 58 (.tuple #[]), q44.2.1, q44.2.2))
              ).bind fun (q45 : R3) =>
              (pickV (q45.1 53) (q45.1 58) (.bool false)).bind fun v52 =>
              some (v52, q45.2.1, q45.2.2))
             ((binK .plain .eql v12 (.int .i64 5)).bind fun v53 =>
              csel v53
                ((pickV q6.1 (gsel q6.1 true q10.1 (.tuple #[])) (.bool false)).bind fun v54 =>
                 let t56 : Tm := put (put (put (put (put (put (put (put (put (put (put (put (put (put (put (put (put (put (put (put (put (put (put (put (put (put (put (put (put (put (put t 2 (ptr (n) 0)) 4 (.bool false)) 7 v3) 8 v4) 9 (t 1)) 10 v5) 11 q6.1) 5 q6.1) 12 v7) 13 v8) 14 (t 1)) 15 v9) 16 q10.1) 6 q10.1) 17 v11) 18 v12) 20 v13) 19 v13) 25 v17) 24 v17) 37 v29) 36 v29) 49 v41) 48 v41) 61 v53) 60 v53) 62 q6.1) 63 q6.1) 64 (gsel q6.1 true q10.1 (.tuple #[]))) 65 v54) 66 v54
                 (gsel v54 true
                   ((fieldA 1 (ptr (n) 0)).bind fun v57 =>
                    (ld false 1 v57 q10.2.1).bind fun v58 =>
                    (binK .plain .eql v58 (.int .i64 0)).bind fun v59 =>
                    some (put (put (put t56 67 v57) 68 v58) 69 v59, q10.2.1, q10.2.2 + 27))
                   (some (put (put (put t56 67 (.tuple #[])) 68 (.tuple #[])) 69 (.tuple #[]), q10.2.1, q10.2.2 + 27))
                 ).bind fun (q55 : R3) =>
                 (pickV (q55.1 66) (q55.1 69) (.bool false)).bind fun v60 =>
                 let t62 : Tm := put (put q55.1 70 v60) 71 v60
                 (gsel v60 true
                   ((fieldA 2 (t62 2)).bind fun v63 =>
                    (ld false 1 v63 q55.2.1).bind fun v64 =>
                    (binK .plain .eql v64 (.string ⟨#[]⟩)).bind fun v65 =>
                    some (put (put (put t62 72 v63) 73 v64) 74 v65, q55.2.1, q55.2.2))
                   (some (put (put (put t62 72 (.tuple #[])) 73 (.tuple #[])) 74 (.tuple #[]), q55.2.1, q55.2.2))
                 ).bind fun (q61 : R3) =>
                 (pickV (q61.1 71) (q61.1 74) (.bool false)).bind fun v66 =>
                 some (v66, q61.2.1, q61.2.2))
                ((binK .plain .eql v12 (.int .i64 6)).bind fun v67 =>
                 csel v67
                   (let t69 : Tm := put (put (put (put (put (put (put (put (put (put (put (put (put (put (put (put (put (put (put (put (put (put (put (put (put (put (put (put (put (put t 2 (ptr (n) 0)) 4 (.bool false)) 7 v3) 8 v4) 9 (t 1)) 10 v5) 11 q6.1) 5 q6.1) 12 v7) 13 v8) 14 (t 1)) 15 v9) 16 q10.1) 6 q10.1) 17 v11) 18 v12) 20 v13) 19 v13) 25 v17) 24 v17) 37 v29) 36 v29) 49 v41) 48 v41) 61 v53) 60 v53) 77 v67) 76 v67) 78 q6.1) 79 q6.1
                    (gsel q6.1 true
                      ((fieldA 1 (ptr (n) 0)).bind fun v70 =>
                       (ld false 1 v70 q10.2.1).bind fun v71 =>
                       (C 51 [v71, .int .i64 0, .int .i64 1000000000] q10.2.1 (q10.2.2 + 31)).bind fun q72 =>
                       some (put (put (put t69 80 v70) 81 v71) 82 q72.1, q72.2.1, q72.2.2))
                      (some (put (put (put t69 80 (.tuple #[])) 81 (.tuple #[])) 82 (.tuple #[]), q10.2.1, q10.2.2 + 31))
                    ).bind fun (q68 : R3) =>
                    (pickV (q68.1 79) (q68.1 82) (.bool false)).bind fun v73 =>
                    let t75 : Tm := put (put q68.1 83 v73) 84 v73
                    (gsel v73 true
                      ((fieldA 4 (t75 2)).bind fun v76 =>
                       (ld false 1 v76 q68.2.1).bind fun v77 =>
                       (binK .plain .eql v77 (.int .i64 0)).bind fun v78 =>
                       some (put (put (put t75 85 v76) 86 v77) 87 v78, q68.2.1, q68.2.2))
                      (some (put (put (put t75 85 (.tuple #[])) 86 (.tuple #[])) 87 (.tuple #[]), q68.2.1, q68.2.2))
                    ).bind fun (q74 : R3) =>
                    (pickV (q74.1 84) (q74.1 87) (.bool false)).bind fun v79 =>
                    let t81 : Tm := put (put q74.1 88 v79) 89 v79
                    (gsel v79 true
                      ((fieldA 2 (t81 2)).bind fun v82 =>
                       (ld false 1 v82 q74.2.1).bind fun v83 =>
                       (binK .plain .eql v83 (.string ⟨#[]⟩)).bind fun v84 =>
                       some (put (put (put t81 90 v82) 91 v83) 92 v84, q74.2.1, q74.2.2))
                      (some (put (put (put t81 90 (.tuple #[])) 91 (.tuple #[])) 92 (.tuple #[]), q74.2.1, q74.2.2))
                    ).bind fun (q80 : R3) =>
                    (pickV (q80.1 89) (q80.1 92) (.bool false)).bind fun v85 =>
                    some (v85, q80.2.1, q80.2.2))
                   ((binK .plain .eql v12 (.int .i64 7)).bind fun v86 =>
                    csel v86
                      (let t88 : Tm := put (put (put (put (put (put (put (put (put (put (put (put (put (put (put (put (put (put (put (put (put (put (put (put (put (put (put (put (put (put (put (put t 2 (ptr (n) 0)) 4 (.bool false)) 7 v3) 8 v4) 9 (t 1)) 10 v5) 11 q6.1) 5 q6.1) 12 v7) 13 v8) 14 (t 1)) 15 v9) 16 q10.1) 6 q10.1) 17 v11) 18 v12) 20 v13) 19 v13) 25 v17) 24 v17) 37 v29) 36 v29) 49 v41) 48 v41) 61 v53) 60 v53) 77 v67) 76 v67) 95 v86) 94 v86) 96 q6.1) 97 q6.1
                       (gsel q6.1 true
                         ((fieldA 1 (ptr (n) 0)).bind fun v89 =>
                          (ld false 1 v89 q10.2.1).bind fun v90 =>
                          (binK .plain .eql v90 (.int .i64 0)).bind fun v91 =>
                          some (put (put (put t88 98 v89) 99 v90) 100 v91, q10.2.1, q10.2.2 + 33))
                         (some (put (put (put t88 98 (.tuple #[])) 99 (.tuple #[])) 100 (.tuple #[]), q10.2.1, q10.2.2 + 33))
                       ).bind fun (q87 : R3) =>
                       (pickV (q87.1 97) (q87.1 100) (.bool false)).bind fun v92 =>
                       let t94 : Tm := put (put q87.1 101 v92) 102 v92
                       (gsel v92 true
                         ((fieldA 4 (t94 2)).bind fun v95 =>
                          (ld false 1 v95 q87.2.1).bind fun v96 =>
                          (binK .plain .eql v96 (.int .i64 0)).bind fun v97 =>
                          some (put (put (put t94 103 v95) 104 v96) 105 v97, q87.2.1, q87.2.2))
                         (some (put (put (put t94 103 (.tuple #[])) 104 (.tuple #[])) 105 (.tuple #[]), q87.2.1, q87.2.2))
                       ).bind fun (q93 : R3) =>
                       (pickV (q93.1 102) (q93.1 105) (.bool false)).bind fun v98 =>
                       let t100 : Tm := put (put q93.1 106 v98) 107 v98
                       (gsel v98 true
                         ((fieldA 2 (t100 2)).bind fun v101 =>
                          (ld false 1 v101 q93.2.1).bind fun v102 =>
                          (binK .plain .eql v102 (.string ⟨#[]⟩)).bind fun v103 =>
                          some (put (put (put t100 108 v101) 109 v102) 110 v103, q93.2.1, q93.2.2))
                         (some (put (put (put t100 108 (.tuple #[])) 109 (.tuple #[])) 110 (.tuple #[]), q93.2.1, q93.2.2))
                       ).bind fun (q99 : R3) =>
                       (pickV (q99.1 107) (q99.1 110) (.bool false)).bind fun v104 =>
                       some (v104, q99.2.1, q99.2.2))
                      ((binK .plain .eql v12 (.int .i64 8)).bind fun v105 =>
                       csel v105
                         ((fieldA 1 (ptr (n) 0)).bind fun v106 =>
                          (ld false 1 v106 q10.2.1).bind fun v107 =>
                          (C 51 [v107, .int .i64 0, .int .i64 99] q10.2.1 (q10.2.2 + 29)).bind fun q108 =>
                          let t110 : Tm := put (put (put (put (put (put (put (put (put (put (put (put (put (put (put (put (put (put (put (put (put (put (put (put (put (put (put (put (put (put (put (put (put (put (put (put t 2 (ptr (n) 0)) 4 (.bool false)) 7 v3) 8 v4) 9 (t 1)) 10 v5) 11 q6.1) 5 q6.1) 12 v7) 13 v8) 14 (t 1)) 15 v9) 16 q10.1) 6 q10.1) 17 v11) 18 v12) 20 v13) 19 v13) 25 v17) 24 v17) 37 v29) 36 v29) 49 v41) 48 v41) 61 v53) 60 v53) 77 v67) 76 v67) 95 v86) 94 v86) 113 v105) 112 v105) 114 v106) 115 v107) 116 q108.1) 117 q108.1
                          (gsel q108.1 true
                            ((ld true 5 (ptr (n) 0) q108.2.1).bind fun v111 =>
                             (fieldA 1 (ptr (n) 0)).bind fun v112 =>
                             (ld false 1 v112 q108.2.1).bind fun v113 =>
                             (bld [.int .i64 0, .int .i64 0, .string ⟨#[]⟩, .int .i64 0, .int .i64 0] [(0, 1, .int .i64 8), (1, 1, v113)]).bind fun v114 =>
                             (binK (.agg [(0, (.int .i64)), (1, (.int .i64)), (2, .string), (3, (.int .i64)), (4, (.int .i64))]) .eql v111 v114).bind fun v115 =>
                             some (put (put (put (put (put t110 118 v111) 119 v112) 120 v113) 121 v114) 122 v115, q108.2.1, q108.2.2))
                            (some (put (put (put (put (put t110 118 (.tuple #[])) 119 (.tuple #[])) 120 (.tuple #[])) 121 (.tuple #[])) 122 (.tuple #[]), q108.2.1, q108.2.2))
                          ).bind fun (q109 : R3) =>
                          (pickV (q109.1 117) (q109.1 122) (.bool false)).bind fun v116 =>
                          some (v116, q109.2.1, q109.2.2))
                         ((binK .plain .eql v12 (.int .i64 9)).bind fun v117 =>
                          csel v117
                            ((fieldA 1 (ptr (n) 0)).bind fun v118 =>
                             (ld false 1 v118 q10.2.1).bind fun v119 =>
                             (C 51 [v119, .int .i64 0, .int .i64 1000000000] q10.2.1 (q10.2.2 + 31)).bind fun q120 =>
                             let t122 : Tm := put (put (put (put (put (put (put (put (put (put (put (put (put (put (put (put (put (put (put (put (put (put (put (put (put (put (put (put (put (put (put (put (put (put (put (put (put (put t 2 (ptr (n) 0)) 4 (.bool false)) 7 v3) 8 v4) 9 (t 1)) 10 v5) 11 q6.1) 5 q6.1) 12 v7) 13 v8) 14 (t 1)) 15 v9) 16 q10.1) 6 q10.1) 17 v11) 18 v12) 20 v13) 19 v13) 25 v17) 24 v17) 37 v29) 36 v29) 49 v41) 48 v41) 61 v53) 60 v53) 77 v67) 76 v67) 95 v86) 94 v86) 113 v105) 112 v105) 125 v117) 124 v117) 126 v118) 127 v119) 128 q120.1) 129 q120.1
                             (gsel q120.1 true
                               ((ld true 5 (ptr (n) 0) q120.2.1).bind fun v123 =>
                                (fieldA 1 (ptr (n) 0)).bind fun v124 =>
                                (ld false 1 v124 q120.2.1).bind fun v125 =>
                                (bld [.int .i64 0, .int .i64 0, .string ⟨#[]⟩, .int .i64 0, .int .i64 0] [(0, 1, .int .i64 9), (1, 1, v125)]).bind fun v126 =>
                                (binK (.agg [(0, (.int .i64)), (1, (.int .i64)), (2, .string), (3, (.int .i64)), (4, (.int .i64))]) .eql v123 v126).bind fun v127 =>
                                some (put (put (put (put (put t122 130 v123) 131 v124) 132 v125) 133 v126) 134 v127, q120.2.1, q120.2.2))
                               (some (put (put (put (put (put t122 130 (.tuple #[])) 131 (.tuple #[])) 132 (.tuple #[])) 133 (.tuple #[])) 134 (.tuple #[]), q120.2.1, q120.2.2))
                             ).bind fun (q121 : R3) =>
                             (pickV (q121.1 129) (q121.1 134) (.bool false)).bind fun v128 =>
                             some (v128, q121.2.1, q121.2.2))
                            (some (.bool false, q10.2.1, q10.2.2 + 21))))))))))
theorem s50 (C : Calling) (L : Body → Body) (t : Tm) (H : Hp) (n : Nat) : bodyK Try.prog C L Try.f50 t H n = S50 C L t H n := by kernel_rfl
theorem c50 (args : List Value) (H : Hp) (n : Nat) : Call Try.prog 50 args H n = S50 (Call Try.prog) Loop (argsT args) H n := (Call_body Try.func50 args H n).trans (s50 ..)
/-! 51: spec.l1In -/
noncomputable def S51 (C : Calling) (L : Body → Body) (t : Tm) (H : Hp) (n : Nat) : Option (Value × Hp × Nat) :=
  (binK .plain .geq (t 0) (t 1)).bind fun v1 =>
  let t3 : Tm := put (put (put (put (put t 6 (.bool false)) 7 (t 0)) 8 (t 1)) 9 v1) 10 v1
  (gsel v1 true
    ((binK .plain .leq (t3 0) (t3 2)).bind fun v4 =>
     some (put (put (put t3 11 (t3 0)) 12 (t3 2)) 13 v4, H, n + 10))
    (some (put (put (put t3 11 (.tuple #[])) 12 (.tuple #[])) 13 (.tuple #[]), H, n + 10))
  ).bind fun (q2 : R3) =>
  (pickV (q2.1 10) (q2.1 13) (.bool false)).bind fun v5 =>
  some (v5, q2.2.1, q2.2.2)
theorem s51 (C : Calling) (L : Body → Body) (t : Tm) (H : Hp) (n : Nat) : bodyK Try.prog C L Try.f51 t H n = S51 C L t H n := by kernel_rfl
theorem c51 (args : List Value) (H : Hp) (n : Nat) : Call Try.prog 51 args H n = S51 (Call Try.prog) Loop (argsT args) H n := (Call_body Try.func51 args H n).trans (s51 ..)
/-! 54: impl.within -/
noncomputable def S54 (C : Calling) (L : Body → Body) (t : Tm) (H : Hp) (n : Nat) : Option (Value × Hp × Nat) :=
  (binK .plain .geq (t 0) (t 1)).bind fun v1 =>
  let t3 : Tm := put (put (put (put (put t 6 (.bool false)) 7 (t 0)) 8 (t 1)) 9 v1) 10 v1
  (gsel v1 true
    ((binK .plain .leq (t3 0) (t3 2)).bind fun v4 =>
     some (put (put (put t3 11 (t3 0)) 12 (t3 2)) 13 v4, H, n + 10))
    (some (put (put (put t3 11 (.tuple #[])) 12 (.tuple #[])) 13 (.tuple #[]), H, n + 10))
  ).bind fun (q2 : R3) =>
  (pickV (q2.1 10) (q2.1 13) (.bool false)).bind fun v5 =>
  some (v5, q2.2.1, q2.2.2)
theorem s54 (C : Calling) (L : Body → Body) (t : Tm) (H : Hp) (n : Nat) : bodyK Try.prog C L Try.f54 t H n = S54 C L t H n := by kernel_rfl
theorem c54 (args : List Value) (H : Hp) (n : Nat) : Call Try.prog 54 args H n = S54 (Call Try.prog) Loop (argsT args) H n := (Call_body Try.func54 args H n).trans (s54 ..)
/-! 55: impl.writing).text -/
noncomputable def S55 (C : Calling) (L : Body → Body) (t : Tm) (H : Hp) (n : Nat) : Option (Value × Hp × Nat) :=
  (nilchk (t 0)).bind fun v1 =>
  (fieldA 1 v1).bind fun v2 =>
  (ld false 1 v2 H).bind fun v3 =>
  (app (n + 6) 1 1 v3 (t 1) H).bind fun p4 =>
  (nilchk (t 0)).bind fun v5 =>
  (fieldA 1 v5).bind fun v6 =>
  (st false 1 v6 p4.1 p4.2).bind fun H7 =>
  some (.tuple ⟨[]⟩, H7, n + 10)
theorem s55 (C : Calling) (L : Body → Body) (t : Tm) (H : Hp) (n : Nat) : bodyK Try.prog C L Try.f55 t H n = S55 C L t H n := by kernel_rfl
theorem c55 (args : List Value) (H : Hp) (n : Nat) : Call Try.prog 55 args H n = S55 (Call Try.prog) Loop (argsT args) H n := (Call_body Try.func55 args H n).trans (s55 ..)
/-! 56: impl.writing).pairs -/
noncomputable def S56L0 (C : Calling) (L : Body → Body) : Body := fun t H n =>
  (nilchk (t 0)).bind fun v2 =>
  (fieldA 0 v2).bind fun v3 =>
  (fieldA 0 v3).bind fun v4 =>
  (ld false 1 v4 H).bind fun v5 =>
  (idxA 5 v5 (t 1)).bind fun v6 =>
  (fieldA 0 v6).bind fun v7 =>
  (ld false 1 v7 H).bind fun v8 =>
  (binK .plain .eql v8 (.int .i64 5)).bind fun v9 =>
  let t11 : Tm := put (put (put (put (put (put (put (put (put (put (put t 6 (t 0)) 7 v2) 8 v3) 9 v4) 10 v5) 11 (t 1)) 12 v6) 13 v7) 14 v8) 15 v9) 16 v9
  (gsel v9 true
    ((C 30 [t11 0] H (n + 15)).bind fun q12 =>
     (un .not q12.1).bind fun v13 =>
     some (put (put (put t11 17 (t11 0)) 18 q12.1) 19 v13, q12.2.1, q12.2.2))
    (some (put (put (put t11 17 (.tuple #[])) 18 (.tuple #[])) 19 (.tuple #[]), H, n + 15))
  ).bind fun (q10 : R3) =>
  (pickV (q10.1 16) (q10.1 19) (.bool false)).bind fun v14 =>
  csel v14
    ((un .not (q10.1 4)).bind fun v15 =>
     let t17 : Tm := put (put (put q10.1 20 v14) 21 (q10.1 4)) 22 v15
     (csel v15
       ((C 55 [t17 0, .string ⟨#[32]⟩] q10.2.1 (q10.2.2 + 4)).bind fun q18 =>
        some ⟨.normal, put (put t17 23 (t17 0)) 24 q18.1, q18.2.1, q18.2.2⟩)
       (some ⟨.normal, t17, q10.2.1, q10.2.2 + 2⟩)
     ).bind fun (o16 : Out) =>
     (nilchk (o16.t 0)).bind fun v19 =>
     (fieldA 0 v19).bind fun v20 =>
     (fieldA 0 v20).bind fun v21 =>
     (ld false 1 v21 o16.H).bind fun v22 =>
     (idxA 5 v22 (o16.t 1)).bind fun v23 =>
     (fieldA 3 v23).bind fun v24 =>
     (ld false 1 v24 o16.H).bind fun v25 =>
     (C 29 [o16.t 0, v25] o16.H (o16.n + 11)).bind fun q26 =>
     (nilchk (o16.t 0)).bind fun v27 =>
     (fieldA 0 v27).bind fun v28 =>
     (fieldA 0 v28).bind fun v29 =>
     (ld false 1 v29 q26.2.1).bind fun v30 =>
     (idxA 5 v30 (o16.t 1)).bind fun v31 =>
     (fieldA 4 v31).bind fun v32 =>
     (ld false 1 v32 q26.2.1).bind fun v33 =>
     some ⟨.normal, put (put (put (put (put (put (put (put (put (put (put (put (put (put (put (put (put (put (put (put (put (put o16.t 25 (o16.t 0)) 26 (o16.t 0)) 27 v19) 28 v20) 29 v21) 30 v22) 31 (o16.t 1)) 32 v23) 33 v24) 34 v25) 35 q26.1) 36 (o16.t 0)) 37 v27) 38 v28) 39 v29) 40 v30) 41 (o16.t 1)) 42 v31) 43 v32) 44 v33) 1 v33) 4 (.bool false), q26.2.1, q26.2.2 + 11⟩)
    (some ⟨(.exit 0), put q10.1 20 v14, q10.2.1, q10.2.2⟩)
noncomputable def S56 (C : Calling) (L : Body → Body) (t : Tm) (H : Hp) (n : Nat) : Option (Value × Hp × Nat) :=
  (L (S56L0 C L) (put t 4 (.bool true)) H (n + 1)).bind fun (o1 : Out) =>
  (nilchk (o1.t 0)).bind fun v34 =>
  (fieldA 0 v34).bind fun v35 =>
  (fieldA 0 v35).bind fun v36 =>
  (ld false 1 v36 o1.H).bind fun v37 =>
  (idxA 5 v37 (o1.t 1)).bind fun v38 =>
  (fieldA 0 v38).bind fun v39 =>
  (ld false 1 v39 o1.H).bind fun v40 =>
  (binK .plain .neq v40 (.int .i64 1)).bind fun v41 =>
  let t43 : Tm := put (put (put (put (put (put (put (put (put (put (put (put (put o1.t 45 (o1.t 0)) 46 v34) 47 v35) 48 v36) 49 v37) 50 (o1.t 1)) 51 v38) 52 v39) 53 v40) 5 v40) 54 v40) 55 v41) 56 v41
  (gsel v41 true
    ((binK .plain .neq v40 (.int .i64 5)).bind fun v44 =>
     some (put (put t43 57 v40) 58 v44, o1.H, o1.n + 16))
    (some (put (put t43 57 (.tuple #[])) 58 (.tuple #[]), o1.H, o1.n + 16))
  ).bind fun (q42 : R3) =>
  (pickV (q42.1 56) (q42.1 58) (.bool false)).bind fun v45 =>
  let t47 : Tm := put q42.1 59 v45
  (csel v45
    ((C 55 [t47 0, .string ⟨#[32, 46, 32]⟩] q42.2.1 (q42.2.2 + 2)).bind fun q48 =>
     (C 29 [t47 0, t47 1] q48.2.1 (q48.2.2 + 3)).bind fun q49 =>
     some ⟨.normal, put (put (put (put (put t47 60 (t47 0)) 61 q48.1) 62 (t47 0)) 63 (t47 1)) 64 q49.1, q49.2.1, q49.2.2⟩)
    (some ⟨.normal, t47, q42.2.1, q42.2.2⟩)
  ).bind fun (o46 : Out) =>
  some (.tuple ⟨[]⟩, o46.H, o46.n)
theorem s56 (C : Calling) (L : Body → Body) (t : Tm) (H : Hp) (n : Nat) : bodyK Try.prog C L Try.f56 t H n = S56 C L t H n := by kernel_rfl
theorem c56 (args : List Value) (H : Hp) (n : Nat) : Call Try.prog 56 args H n = S56 (Call Try.prog) Loop (argsT args) H n := (Call_body Try.func56 args H n).trans (s56 ..)
/-! 57: impl.decimal -/
noncomputable def S57 (C : Calling) (L : Body → Body) (t : Tm) (H : Hp) (n : Nat) : Option (Value × Hp × Nat) :=
  (binK .plain .lss (t 0) (.int .i64 0)).bind fun v1 =>
  let t3 : Tm := put (put (put (put t 2 (.string ⟨#[]⟩)) 4 (t 0)) 5 v1) 6 v1
  (gsel v1 true
    ((binK .plain .gtr (t3 0) (.int .i64 (-10))).bind fun v4 =>
     some (put (put t3 7 (t3 0)) 8 v4, H, n + 8))
    (some (put (put t3 7 (.tuple #[])) 8 (.tuple #[]), H, n + 8))
  ).bind fun (q2 : R3) =>
  (pickV (q2.1 6) (q2.1 8) (.bool false)).bind fun v5 =>
  csel v5
    ((un .neg (q2.1 0)).bind fun v6 =>
     (C 57 [v6] q2.2.1 (q2.2.2 + 5)).bind fun q7 =>
     (binK .plain .add (.string ⟨#[45]⟩) q7.1).bind fun v8 =>
     some (v8, q7.2.1, q7.2.2))
    ((binK .plain .lss (q2.1 0) (.int .i64 0)).bind fun v9 =>
     csel v9
       ((binK .plain .quo (q2.1 0) (.int .i64 10)).bind fun v10 =>
        (C 57 [v10] q2.2.1 (q2.2.2 + 12)).bind fun q11 =>
        (binK .plain .rem (q2.1 0) (.int .i64 10)).bind fun v12 =>
        (un .neg v12).bind fun v13 =>
        (C 57 [v13] q11.2.1 (q11.2.2)).bind fun q14 =>
        (binK .plain .add q11.1 q14.1).bind fun v15 =>
        some (v15, q14.2.1, q14.2.2))
       ((binK .plain .lss (q2.1 0) (.int .i64 10)).bind fun v16 =>
        csel v16
          ((binK .plain .add (.int .i64 48) (q2.1 0)).bind fun v17 =>
           (conv (.toInt .i32) (q2.2.2 + 8) v17 q2.2.1).bind fun p18 =>
           (conv .intToStr (q2.2.2 + 9) p18.1 p18.2).bind fun p19 =>
           some (p19.1, p19.2, q2.2.2 + 11))
          ((binK .plain .quo (q2.1 0) (.int .i64 10)).bind fun v20 =>
           (C 57 [v20] q2.2.1 (q2.2.2 + 16)).bind fun q21 =>
           (binK .plain .rem (q2.1 0) (.int .i64 10)).bind fun v22 =>
           (binK .plain .add (.int .i64 48) v22).bind fun v23 =>
           (conv (.toInt .i32) (q2.2.2 + 12) v23 q21.2.1).bind fun p24 =>
           (conv .intToStr (q2.2.2 + 13) p24.1 p24.2).bind fun p25 =>
           (binK .plain .add q21.1 p25.1).bind fun v26 =>
           some (v26, p25.2, q21.2.2))))
theorem s57 (C : Calling) (L : Body → Body) (t : Tm) (H : Hp) (n : Nat) : bodyK Try.prog C L Try.f57 t H n = S57 C L t H n := by kernel_rfl
theorem c57 (args : List Value) (H : Hp) (n : Nat) : Call Try.prog 57 args H n = S57 (Call Try.prog) Loop (argsT args) H n := (Call_body Try.func57 args H n).trans (s57 ..)
/-! 59: spec.l7Into -/
noncomputable def S59L0 (C : Calling) (L : Body → Body) : Body := fun t H n =>
  (fieldA 0 (t 4)).bind fun v8 =>
  (ld false 1 v8 H).bind fun v9 =>
  (lenV false v9).bind fun v10 =>
  (binK .plain .lss (t 8) v10).bind fun v11 =>
  csel v11
    (let t13 : Tm := put (put (put (put (put t 14 (t 8)) 15 v8) 16 v9) 17 v10) 18 v11
     Option.bind
       ((idxA 1 (t13 2) (t13 8)).bind fun v14 =>
        (ld false 1 v14 H).bind fun v15 =>
        (un .not v15).bind fun v16 =>
        csel v16
          (some ⟨(.exit 1), put (put (put (put (put t13 21 (t13 2)) 22 (t13 8)) 23 v14) 24 v15) 25 v16, H, n + 10⟩)
          ((fieldA 0 (t13 4)).bind fun v17 =>
           (ld false 1 v17 H).bind fun v18 =>
           (idxA 5 v18 (t13 8)).bind fun v19 =>
           (ld true 5 v19 H).bind fun v20 =>
           let H21 := H.set (n + 15) (some (.row [.int .i64 0, .int .i64 0, .string ⟨#[]⟩, .int .i64 0, .int .i64 0] 0 true))
           (st true 5 (ptr (n + 15) 0) v20 H21).bind fun H22 =>
           (fieldA 0 (ptr (n + 15) 0)).bind fun v23 =>
           (ld false 1 v23 H22).bind fun v24 =>
           (binK .plain .eql v24 (.int .i64 5)).bind fun v25 =>
           let t27 : Tm := put (put (put (put (put (put (put (put (put (put (put (put (put (put (put t13 21 (t13 2)) 22 (t13 8)) 23 v14) 24 v15) 25 v16) 26 v17) 27 v18) 28 (t13 8)) 29 v19) 30 v20) 9 (ptr (n + 15) 0)) 31 v23) 32 v24) 34 v25) 33 v25
           (csel v25
             ((fieldA 3 (ptr (n + 15) 0)).bind fun v28 =>
              (ld false 1 v28 H22).bind fun v29 =>
              (idxA 1 (t27 7) v29).bind fun v30 =>
              (ld false 1 v30 H22).bind fun v31 =>
              (fieldA 3 (ptr (n + 15) 0)).bind fun v32 =>
              (st false 1 v32 v31 H22).bind fun H33 =>
              (fieldA 4 (ptr (n + 15) 0)).bind fun v34 =>
              (ld false 1 v34 H33).bind fun v35 =>
              (idxA 1 (t27 7) v35).bind fun v36 =>
              (ld false 1 v36 H33).bind fun v37 =>
              (fieldA 4 (ptr (n + 15) 0)).bind fun v38 =>
              (st false 1 v38 v37 H33).bind fun H39 =>
              some ⟨.normal, put (put (put (put (put (put (put (put (put (put (put (put t27 35 (t27 7)) 36 v28) 37 v29) 38 v30) 39 v31) 40 v32) 41 (t27 7)) 42 v34) 43 v35) 44 v36) 45 v37) 46 v38, H39, n + 35⟩)
             ((binK .plain .eql v24 (.int .i64 6)).bind fun v40 =>
              let t42 : Tm := put (put t27 48 v40) 47 v40
              (csel v40
                (some ⟨.normal, t42, H22, n + 23⟩)
                ((binK .plain .eql v24 (.int .i64 7)).bind fun v43 =>
                 some ⟨.normal, put (put t42 49 v43) 47 v43, H22, n + 25⟩)
              ).bind fun (o41 : Out) =>
              (csel (o41.t 47)
                ((fieldA 3 (o41.t 9)).bind fun v46 =>
                 (ld false 1 v46 o41.H).bind fun v47 =>
                 (idxA 1 (o41.t 7) v47).bind fun v48 =>
                 (ld false 1 v48 o41.H).bind fun v49 =>
                 (fieldA 3 (o41.t 9)).bind fun v50 =>
                 (st false 1 v50 v49 o41.H).bind fun H51 =>
                 some ⟨.normal, put (put (put (put (put (put o41.t 50 (o41.t 7)) 51 v46) 52 v47) 53 v48) 54 v49) 55 v50, H51, o41.n + 7⟩)
                (some ⟨.normal, o41.t, o41.H, o41.n⟩)
              ).bind fun (o44 : Out) =>
              some ⟨.normal, o44.t, o44.H, o44.n⟩)
           ).bind fun (o26 : Out) =>
           (ld true 5 (o26.t 9) o26.H).bind fun v52 =>
           (C 40 [o26.t 0, v52] o26.H (o26.n + 7)).bind fun q53 =>
           (idxA 1 (o26.t 7) (o26.t 8)).bind fun v54 =>
           (st false 1 v54 q53.1 q53.2.1).bind fun H55 =>
           some ⟨.normal, put (put (put (put (put (put o26.t 56 (o26.t 7)) 57 (o26.t 8)) 58 (o26.t 0)) 59 v52) 60 q53.1) 61 v54, H55, q53.2.2⟩))
     fun (o12 : Out) =>
     (binK .plain .add (o12.t 8) (.int .i64 1)).bind fun v56 =>
     some ⟨.normal, put (put (put o12.t 19 (o12.t 8)) 20 v56) 8 v56, o12.H, o12.n + 3⟩)
    (some ⟨(.exit 0), put (put (put (put (put t 14 (t 8)) 15 v8) 16 v9) 17 v10) 18 v11, H, n + 5⟩)
noncomputable def S59 (C : Calling) (L : Body → Body) (t : Tm) (H : Hp) (n : Nat) : Option (Value × Hp × Nat) :=
  (vcells (t 1)).bind fun c2 =>
  let H1 := H.set (n) (some (.row c2 0 true))
  (fieldA 0 (ptr (n) 0)).bind fun v3 =>
  (ld false 1 v3 H1).bind fun v4 =>
  (lenV false v4).bind fun v5 =>
  (mks (n + 5) 1 8 [.int .i64 0] v5 v5 H1).bind fun p6 =>
  (L (S59L0 C L) (put (put (put (put (put (put (put (put t 4 (ptr (n) 0)) 6 nilS) 10 v3) 11 v4) 12 v5) 13 p6.1) 7 p6.1) 8 (.int .i64 0)) p6.2 (n + 8)).bind fun (o7 : Out) =>
  some (o7.t 7, o7.H, o7.n + 2)
theorem s59 (C : Calling) (L : Body → Body) (t : Tm) (H : Hp) (n : Nat) : bodyK Try.prog C L Try.f59 t H n = S59 C L t H n := by kernel_rfl
theorem c59 (args : List Value) (H : Hp) (n : Nat) : Call Try.prog 59 args H n = S59 (Call Try.prog) Loop (argsT args) H n := (Call_body Try.func59 args H n).trans (s59 ..)
/-! 60: spec.l7Reach -/
noncomputable def S60L1 (C : Calling) (L : Body → Body) : Body := fun t H n =>
  (binK .plain .geq (t 7) (.int .i64 0)).bind fun v20 =>
  csel v20
    (let t22 : Tm := put (put t 29 (t 7)) 30 v20
     Option.bind
       ((fieldA 0 (t22 2)).bind fun v23 =>
        (ld false 1 v23 H).bind fun v24 =>
        (idxA 5 v24 (t22 7)).bind fun v25 =>
        (ld true 5 v25 H).bind fun v26 =>
        let H27 := H.set (n + 7) (some (.row [.int .i64 0, .int .i64 0, .string ⟨#[]⟩, .int .i64 0, .int .i64 0] 0 true))
        (st true 5 (ptr (n + 7) 0) v26 H27).bind fun H28 =>
        (idxA 1 (t22 5) (t22 7)).bind fun v29 =>
        (ld false 1 v29 H28).bind fun v30 =>
        (un .not v30).bind fun v31 =>
        csel v31
          (some ⟨(.exit 3), put (put (put (put (put (put (put (put (put (put (put t22 33 v23) 34 v24) 35 (t22 7)) 36 v25) 37 v26) 8 (ptr (n + 7) 0)) 38 (t22 5)) 39 (t22 7)) 40 v29) 41 v30) 42 v31, H28, n + 14⟩)
          ((fieldA 0 (ptr (n + 7) 0)).bind fun v32 =>
           (ld false 1 v32 H28).bind fun v33 =>
           (binK .plain .eql v33 (.int .i64 5)).bind fun v34 =>
           let t36 : Tm := put (put (put (put (put (put (put (put (put (put (put (put (put (put (put t22 33 v23) 34 v24) 35 (t22 7)) 36 v25) 37 v26) 8 (ptr (n + 7) 0)) 38 (t22 5)) 39 (t22 7)) 40 v29) 41 v30) 42 v31) 43 v32) 44 v33) 46 v34) 45 v34
           (csel v34
             ((fieldA 3 (ptr (n + 7) 0)).bind fun v37 =>
              (ld false 1 v37 H28).bind fun v38 =>
              (idxA 1 (t36 5) v38).bind fun v39 =>
              (st false 1 v39 (.bool true) H28).bind fun H40 =>
              (fieldA 4 (ptr (n + 7) 0)).bind fun v41 =>
              (ld false 1 v41 H40).bind fun v42 =>
              (idxA 1 (t36 5) v42).bind fun v43 =>
              (st false 1 v43 (.bool true) H40).bind fun H44 =>
              some ⟨.normal, put (put (put (put (put (put (put (put t36 47 (t36 5)) 48 v37) 49 v38) 50 v39) 51 (t36 5)) 52 v41) 53 v42) 54 v43, H44, n + 28⟩)
             ((binK .plain .eql v33 (.int .i64 6)).bind fun v45 =>
              let t47 : Tm := put (put t36 56 v45) 55 v45
              (csel v45
                (some ⟨.normal, t47, H28, n + 20⟩)
                ((binK .plain .eql v33 (.int .i64 7)).bind fun v48 =>
                 some ⟨.normal, put (put t47 57 v48) 55 v48, H28, n + 22⟩)
              ).bind fun (o46 : Out) =>
              (csel (o46.t 55)
                ((fieldA 3 (o46.t 8)).bind fun v51 =>
                 (ld false 1 v51 o46.H).bind fun v52 =>
                 (idxA 1 (o46.t 5) v52).bind fun v53 =>
                 (st false 1 v53 (.bool true) o46.H).bind fun H54 =>
                 some ⟨.normal, put (put (put (put o46.t 58 (o46.t 5)) 59 v51) 60 v52) 61 v53, H54, o46.n + 5⟩)
                (some ⟨.normal, o46.t, o46.H, o46.n⟩)
              ).bind fun (o49 : Out) =>
              some ⟨.normal, o49.t, o49.H, o49.n⟩)
           ).bind fun (o35 : Out) =>
           some ⟨.normal, o35.t, o35.H, o35.n⟩))
     fun (o21 : Out) =>
     (binK .plain .sub (o21.t 7) (.int .i64 1)).bind fun v55 =>
     some ⟨.normal, put (put (put o21.t 31 (o21.t 7)) 32 v55) 7 v55, o21.H, o21.n + 3⟩)
    (some ⟨(.exit 2), put (put t 29 (t 7)) 30 v20, H, n + 2⟩)
noncomputable def S60L0 (C : Calling) (L : Body → Body) : Body := fun t H n =>
  (lenV false (t 1)).bind fun v8 =>
  (binK .plain .lss (t 6) v8).bind fun v9 =>
  csel v9
    ((idxA 1 (t 1) (t 6)).bind fun v10 =>
     (ld false 1 v10 H).bind fun v11 =>
     (idxA 1 (t 5) v11).bind fun v12 =>
     (st false 1 v12 (.bool true) H).bind fun H13 =>
     (binK .plain .add (t 6) (.int .i64 1)).bind fun v14 =>
     some ⟨.normal, put (put (put (put (put (put (put (put (put (put (put (put (put t 13 (t 6)) 14 (t 1)) 15 v8) 16 v9) 19 (t 5)) 20 (t 1)) 21 (t 6)) 22 v10) 23 v11) 24 v12) 17 (t 6)) 18 v14) 6 v14, H13, n + 14⟩)
    (some ⟨(.exit 0), put (put (put (put t 13 (t 6)) 14 (t 1)) 15 v8) 16 v9, H, n + 4⟩)
noncomputable def S60 (C : Calling) (L : Body → Body) (t : Tm) (H : Hp) (n : Nat) : Option (Value × Hp × Nat) :=
  (vcells (t 0)).bind fun c2 =>
  let H1 := H.set (n) (some (.row c2 0 true))
  (fieldA 0 (ptr (n) 0)).bind fun v3 =>
  (ld false 1 v3 H1).bind fun v4 =>
  (lenV false v4).bind fun v5 =>
  (mks (n + 5) 1 1 [.bool false] v5 v5 H1).bind fun p6 =>
  (L (S60L0 C L) (put (put (put (put (put (put (put (put t 2 (ptr (n) 0)) 4 nilS) 9 v3) 10 v4) 11 v5) 12 p6.1) 5 p6.1) 6 (.int .i64 0)) p6.2 (n + 8)).bind fun (o7 : Out) =>
  (fieldA 0 (o7.t 2)).bind fun v15 =>
  (ld false 1 v15 o7.H).bind fun v16 =>
  (lenV false v16).bind fun v17 =>
  (binK .plain .sub v17 (.int .i64 1)).bind fun v18 =>
  (L (S60L1 C L) (put (put (put (put (put o7.t 25 v15) 26 v16) 27 v17) 28 v18) 7 v18) o7.H (o7.n + 5)).bind fun (o19 : Out) =>
  some (o19.t 5, o19.H, o19.n + 2)
theorem s60 (C : Calling) (L : Body → Body) (t : Tm) (H : Hp) (n : Nat) : bodyK Try.prog C L Try.f60 t H n = S60 C L t H n := by kernel_rfl
theorem c60 (args : List Value) (H : Hp) (n : Nat) : Call Try.prog 60 args H n = S60 (Call Try.prog) Loop (argsT args) H n := (Call_body Try.func60 args H n).trans (s60 ..)
/-! 63: impl.Pool).moveIn -/
noncomputable def S63L0 (C : Calling) (L : Body → Body) : Body := fun t H n =>
  (binK .plain .lss (t 21) (t 20)).bind fun v13 =>
  csel v13
    (let t15 : Tm := put t 22 v13
     Option.bind
       ((idxA 5 (t15 19) (t15 21)).bind fun v16 =>
        (ld true 5 v16 H).bind fun v17 =>
        let H18 := H.set (n + 4) (some (.row [.int .i64 0, .int .i64 0, .string ⟨#[]⟩, .int .i64 0, .int .i64 0] 0 true))
        (st true 5 (ptr (n + 4) 0) v17 H18).bind fun H19 =>
        (idxA 1 (t15 7) (t15 21)).bind fun v20 =>
        (st false 1 v20 (.int .i64 (-1)) H19).bind fun H21 =>
        (idxA 1 (t15 8) (t15 21)).bind fun v22 =>
        (ld false 1 v22 H21).bind fun v23 =>
        (un .not v23).bind fun v24 =>
        csel v24
          (some ⟨(.exit 1), put (put (put (put (put (put (put (put (put (put (put (put (put t15 23 (t15 21)) 24 v16) 25 v17) 10 (ptr (n + 4) 0)) 9 (t15 21)) 26 (t15 7)) 27 (t15 21)) 28 v20) 29 (t15 8)) 30 (t15 21)) 31 v22) 32 v23) 33 v24, H21, n + 16⟩)
          ((fieldA 0 (ptr (n + 4) 0)).bind fun v25 =>
           (ld false 1 v25 H21).bind fun v26 =>
           (binK .plain .eql v26 (.int .i64 5)).bind fun v27 =>
           let t29 : Tm := put (put (put (put (put (put (put (put (put (put (put (put (put (put (put (put (put t15 23 (t15 21)) 24 v16) 25 v17) 10 (ptr (n + 4) 0)) 9 (t15 21)) 26 (t15 7)) 27 (t15 21)) 28 v20) 29 (t15 8)) 30 (t15 21)) 31 v22) 32 v23) 33 v24) 34 v25) 35 v26) 37 v27) 36 v27
           (csel v27
             ((fieldA 3 (ptr (n + 4) 0)).bind fun v30 =>
              (ld false 1 v30 H21).bind fun v31 =>
              (idxA 1 (t29 7) v31).bind fun v32 =>
              (ld false 1 v32 H21).bind fun v33 =>
              (fieldA 4 (ptr (n + 4) 0)).bind fun v34 =>
              (ld false 1 v34 H21).bind fun v35 =>
              (idxA 1 (t29 7) v35).bind fun v36 =>
              (ld false 1 v36 H21).bind fun v37 =>
              (fieldA 3 (ptr (n + 4) 0)).bind fun v38 =>
              (st false 1 v38 v33 H21).bind fun H39 =>
              ask (ld false 1 v36 H39 = some v37) <|
              (fieldA 4 (ptr (n + 4) 0)).bind fun v40 =>
              (st false 1 v40 v37 H39).bind fun H41 =>
              some ⟨.normal, put (put (put (put (put (put (put (put (put (put (put (put t29 38 (t29 7)) 39 v30) 40 v31) 41 v32) 42 v33) 43 (t29 7)) 44 v34) 45 v35) 46 v36) 47 v37) 48 v38) 49 v40, H41, n + 34⟩)
             ((binK .plain .eql v26 (.int .i64 6)).bind fun v42 =>
              let t44 : Tm := put (put t29 51 v42) 50 v42
              (csel v42
                (some ⟨.normal, t44, H21, n + 22⟩)
                ((binK .plain .eql v26 (.int .i64 7)).bind fun v45 =>
                 some ⟨.normal, put (put t44 52 v45) 50 v45, H21, n + 24⟩)
              ).bind fun (o43 : Out) =>
              (csel (o43.t 50)
                ((fieldA 3 (o43.t 10)).bind fun v48 =>
                 (ld false 1 v48 o43.H).bind fun v49 =>
                 (idxA 1 (o43.t 7) v49).bind fun v50 =>
                 (ld false 1 v50 o43.H).bind fun v51 =>
                 (fieldA 3 (o43.t 10)).bind fun v52 =>
                 (st false 1 v52 v51 o43.H).bind fun H53 =>
                 some ⟨.normal, put (put (put (put (put (put o43.t 53 (o43.t 7)) 54 v48) 55 v49) 56 v50) 57 v51) 58 v52, H53, o43.n + 7⟩)
                (some ⟨.normal, o43.t, o43.H, o43.n⟩)
              ).bind fun (o46 : Out) =>
              some ⟨.normal, o46.t, o46.H, o46.n⟩)
           ).bind fun (o28 : Out) =>
           (ld true 5 (o28.t 10) o28.H).bind fun v54 =>
           (C 75 [o28.t 0, v54] o28.H (o28.n + 7)).bind fun q55 =>
           (idxA 1 (o28.t 7) (o28.t 9)).bind fun v56 =>
           (st false 1 v56 q55.1 q55.2.1).bind fun H57 =>
           some ⟨.normal, put (put (put (put (put (put o28.t 59 (o28.t 7)) 60 (o28.t 9)) 61 (o28.t 0)) 62 v54) 63 q55.1) 64 v56, H57, q55.2.2⟩))
     fun (o14 : Out) =>
     (binK .plain .add (o14.t 21) (.int .i64 1)).bind fun v58 =>
     some ⟨.normal, put (put o14.t 65 v58) 21 v58, o14.H, o14.n + 2⟩)
    (some ⟨(.exit 0), put t 22 v13, H, n + 1⟩)
noncomputable def S63 (C : Calling) (L : Body → Body) (t : Tm) (H : Hp) (n : Nat) : Option (Value × Hp × Nat) :=
  (vcells (t 1)).bind fun c2 =>
  let H1 := H.set (n) (some (.row c2 0 true))
  (fieldA 0 (ptr (n) 0)).bind fun v3 =>
  (ld false 1 v3 H1).bind fun v4 =>
  (lenV false v4).bind fun v5 =>
  (mks (n + 5) 1 8 [.int .i64 0] v5 v5 H1).bind fun p6 =>
  (ld true 1 (ptr (n) 0) p6.2).bind fun v7 =>
  (C 74 [v7, t 2] p6.2 (n + 11)).bind fun q8 =>
  (fieldA 0 (ptr (n) 0)).bind fun v9 =>
  (ld false 1 v9 q8.2.1).bind fun v10 =>
  (lenV false v10).bind fun v11 =>
  (L (S63L0 C L) (put (put (put (put (put (put (put (put (put (put (put (put (put (put (put t 4 (ptr (n) 0)) 6 nilS) 11 v3) 12 v4) 13 v5) 14 p6.1) 7 p6.1) 15 v7) 16 (t 2)) 17 q8.1) 8 q8.1) 18 v9) 19 v10) 20 v11) 21 (.int .i64 0)) q8.2.1 (q8.2.2 + 4)).bind fun (o12 : Out) =>
  some (o12.t 7, o12.H, o12.n + 2)
theorem s63 (C : Calling) (L : Body → Body) (t : Tm) (H : Hp) (n : Nat) : bodyK Try.prog C L Try.f63 t H n = S63 C L t H n := by kernel_rfl
theorem c63 (args : List Value) (H : Hp) (n : Nat) : Call Try.prog 63 args H n = S63 (Call Try.prog) Loop (argsT args) H n := (Call_body Try.func63 args H n).trans (s63 ..)
/-! 66: spec.l2DrawRight -/
noncomputable def S66L0 (C : Calling) (L : Body → Body) : Body := fun t H n =>
  (binK .plain .lss (t 5) (t 4)).bind fun v7 =>
  csel v7
    ((C 76 [t 0, t 5] H (n + 7)).bind fun q8 =>
     (C 40 [t 3, q8.1] q8.2.1 (q8.2.2)).bind fun q9 =>
     (binK .plain .add (t 5) (.int .i64 1)).bind fun v10 =>
     some ⟨.normal, put (put (put (put (put (put (put (put (put (put t 9 (t 5)) 10 (t 4)) 11 v7) 14 (t 0)) 15 (t 5)) 16 q8.1) 17 q9.1) 12 (t 5)) 13 v10) 5 v10, q9.2.1, q9.2.2 + 3⟩)
    (some ⟨(.exit 0), put (put (put t 9 (t 5)) 10 (t 4)) 11 v7, H, n + 3⟩)
noncomputable def S66 (C : Calling) (L : Body → Body) (t : Tm) (H : Hp) (n : Nat) : Option (Value × Hp × Nat) :=
  let H1 := H.set (n) (some (.row [nilS] 0 true))
  (bld [nilS] []).bind fun v2 =>
  let H3 := H1.set (n + 2) (some (.row [nilS] 0 true))
  (st true 1 (ptr (n + 2) 0) v2 H3).bind fun H4 =>
  (C 39 [t 0, .int .i64 16] H4 (n + 7)).bind fun q5 =>
  (L (S66L0 C L) (put (put (put (put (put (put (put t 2 (ptr (n) 0)) 6 v2) 3 (ptr (n + 2) 0)) 7 (t 0)) 8 q5.1) 4 q5.1) 5 (.int .i64 0)) q5.2.1 (q5.2.2 + 1)).bind fun (o6 : Out) =>
  (ld true 1 (o6.t 3) o6.H).bind fun v11 =>
  (st true 1 (o6.t 2) v11 o6.H).bind fun H12 =>
  (ld true 1 (o6.t 2) H12).bind fun v13 =>
  some (v13, H12, o6.n + 2)
theorem s66 (C : Calling) (L : Body → Body) (t : Tm) (H : Hp) (n : Nat) : bodyK Try.prog C L Try.f66 t H n = S66 C L t H n := by kernel_rfl
theorem c66 (args : List Value) (H : Hp) (n : Nat) : Call Try.prog 66 args H n = S66 (Call Try.prog) Loop (argsT args) H n := (Call_body Try.func66 args H n).trans (s66 ..)
/-! 67: spec.l2Spoil -/
noncomputable def S67 (C : Calling) (L : Body → Body) (t : Tm) (H : Hp) (n : Nat) : Option (Value × Hp × Nat) :=
  (vcells (t 1)).bind fun c2 =>
  let H1 := H.set (n) (some (.row c2 0 true))
  let H3 := H1.set (n + 1) (some (.row [.int .i64 0, .int .i64 0, .string ⟨#[]⟩, .int .i64 0, .int .i64 0] 0 true))
  (C 39 [t 0, .int .i64 8] H3 (n + 4)).bind fun q4 =>
  (binK .plain .eql q4.1 (.int .i64 0)).bind fun v5 =>
  let t7 : Tm := put (put (put (put (put (put t 3 (ptr (n) 0)) 4 (ptr (n + 1) 0)) 5 (t 0)) 6 q4.1) 8 v5) 7 v5
  (csel v5
    ((C 39 [t7 0, .int .i64 11] q4.2.1 (q4.2.2 + 6)).bind fun q8 =>
     (fieldA 0 (ptr (n) 0)).bind fun v9 =>
     (st false 1 v9 q8.1 q8.2.1).bind fun H10 =>
     some ⟨.normal, put (put (put t7 9 (t7 0)) 10 q8.1) 11 v9, H10, q8.2.2⟩)
    ((binK .plain .eql q4.1 (.int .i64 1)).bind fun v11 =>
     let t13 : Tm := put (put t7 13 v11) 12 v11
     (csel v11
       ((C 39 [t13 0, .int .i64 20] q4.2.1 (q4.2.2 + 9)).bind fun q14 =>
        (binK .plain .sub q14.1 (.int .i64 1)).bind fun v15 =>
        (fieldA 3 (ptr (n) 0)).bind fun v16 =>
        (st false 1 v16 v15 q14.2.1).bind fun H17 =>
        some ⟨.normal, put (put (put (put t13 14 (t13 0)) 15 q14.1) 16 v15) 17 v16, H17, q14.2.2⟩)
       ((binK .plain .eql q4.1 (.int .i64 2)).bind fun v18 =>
        let t20 : Tm := put (put t13 19 v18) 18 v18
        (csel v18
          ((C 39 [t20 0, .int .i64 20] q4.2.1 (q4.2.2 + 11)).bind fun q21 =>
           (binK .plain .sub q21.1 (.int .i64 1)).bind fun v22 =>
           (fieldA 4 (ptr (n) 0)).bind fun v23 =>
           (st false 1 v23 v22 q21.2.1).bind fun H24 =>
           some ⟨.normal, put (put (put (put t20 20 (t20 0)) 21 q21.1) 22 v22) 23 v23, H24, q21.2.2⟩)
          ((binK .plain .eql q4.1 (.int .i64 3)).bind fun v25 =>
           let t27 : Tm := put (put t20 25 v25) 24 v25
           (csel v25
             ((bsl (q4.2.2 + 9) 1 8 [.int .i64 0] [(0, 1, .int .i64 (-1)), (1, 1, .int .i64 2), (2, 1, .int .i64 99), (3, 1, .int .i64 100), (4, 1, .int .i64 1000000000), (5, 1, .int .i64 1000000001), (6, 1, .int .i64 (-1000000000)), (7, 1, .int .i64 (-1000000001))] q4.2.1).bind fun p28 =>
              (C 69 [t27 0, p28.1] p28.2 (q4.2.2 + 13)).bind fun q29 =>
              (fieldA 1 (ptr (n) 0)).bind fun v30 =>
              (st false 1 v30 q29.1 q29.2.1).bind fun H31 =>
              some ⟨.normal, put (put (put (put t27 26 (t27 0)) 27 p28.1) 28 q29.1) 29 v30, H31, q29.2.2⟩)
             ((binK .plain .eql q4.1 (.int .i64 4)).bind fun v32 =>
              let t34 : Tm := put (put t27 31 v32) 30 v32
              (csel v32
                ((bsl (q4.2.2 + 11) 1 6 [.string ⟨#[]⟩] [(0, 1, .string ⟨#[]⟩), (1, 1, .string ⟨#[97]⟩), (2, 1, .string ⟨#[65, 98]⟩), (3, 1, .string ⟨#[97, 98, 99, 100, 101, 102, 103, 104, 105, 106, 107, 108]⟩), (4, 1, .string ⟨#[97, 98, 99, 100, 101, 102, 103, 104, 105, 106, 107, 108, 109]⟩), (5, 1, .string ⟨#[97, 49]⟩)] q4.2.1).bind fun p35 =>
                 (C 77 [t34 0, p35.1] p35.2 (q4.2.2 + 15)).bind fun q36 =>
                 (fieldA 2 (ptr (n) 0)).bind fun v37 =>
                 (st false 1 v37 q36.1 q36.2.1).bind fun H38 =>
                 some ⟨.normal, put (put (put (put t34 32 (t34 0)) 33 p35.1) 34 q36.1) 35 v37, H38, q36.2.2⟩)
                (some ⟨.normal, t34, q4.2.1, q4.2.2 + 10⟩)
              ).bind fun (o33 : Out) =>
              some ⟨.normal, o33.t, o33.H, o33.n⟩)
           ).bind fun (o26 : Out) =>
           some ⟨.normal, o26.t, o26.H, o26.n⟩)
        ).bind fun (o19 : Out) =>
        some ⟨.normal, o19.t, o19.H, o19.n⟩)
     ).bind fun (o12 : Out) =>
     some ⟨.normal, o12.t, o12.H, o12.n⟩)
  ).bind fun (o6 : Out) =>
  (ld true 5 (o6.t 3) o6.H).bind fun v39 =>
  (st true 5 (o6.t 4) v39 o6.H).bind fun H40 =>
  (ld true 5 (o6.t 4) H40).bind fun v41 =>
  some (v41, H40, o6.n + 2)
theorem s67 (C : Calling) (L : Body → Body) (t : Tm) (H : Hp) (n : Nat) : bodyK Try.prog C L Try.f67 t H n = S67 C L t H n := by kernel_rfl
theorem c67 (args : List Value) (H : Hp) (n : Nat) : Call Try.prog 67 args H n = S67 (Call Try.prog) Loop (argsT args) H n := (Call_body Try.func67 args H n).trans (s67 ..)
/-! 68: spec.l1Byte -/
noncomputable def S68 (C : Calling) (L : Body → Body) (t : Tm) (H : Hp) (n : Nat) : Option (Value × Hp × Nat) :=
  (nilchk (t 0)).bind fun v1 =>
  (fieldA 2 v1).bind fun v2 =>
  (ld false 1 v2 H).bind fun v3 =>
  (binK .plain .mul v3 (.int .i64 6364136223846793005)).bind fun v4 =>
  (binK .plain .add v4 (.int .i64 1442695040888963407)).bind fun v5 =>
  (nilchk (t 0)).bind fun v6 =>
  (fieldA 2 v6).bind fun v7 =>
  (st false 1 v7 v5 H).bind fun H8 =>
  (nilchk (t 0)).bind fun v9 =>
  (fieldA 2 v9).bind fun v10 =>
  (ld false 1 v10 H8).bind fun v11 =>
  (binK .plain .shr v11 (.int .u64 33)).bind fun v12 =>
  (nilchk (t 0)).bind fun v13 =>
  (fieldA 2 v13).bind fun v14 =>
  (ld false 1 v14 H8).bind fun v15 =>
  (binK .plain .shr v15 (.int .u64 45)).bind fun v16 =>
  (binK .plain .xor v12 v16).bind fun v17 =>
  (binK .plain .and v17 (.int .i64 255)).bind fun v18 =>
  (nilchk (t 0)).bind fun v19 =>
  (fieldA 1 v19).bind fun v20 =>
  (ld false 1 v20 H8).bind fun v21 =>
  (nilchk (t 0)).bind fun v22 =>
  (fieldA 0 v22).bind fun v23 =>
  (ld false 1 v23 H8).bind fun v24 =>
  (lenV false v24).bind fun v25 =>
  (binK .plain .lss v21 v25).bind fun v26 =>
  let t28 : Tm := put (put (put (put (put (put (put (put (put (put (put (put (put (put (put (put (put (put (put (put (put (put (put (put (put (put (put (put (put (put (put (put (put t 2 (.int .i64 0)) 4 (t 0)) 5 (t 0)) 6 v1) 7 v2) 8 v3) 9 v4) 10 v5) 11 v6) 12 v7) 13 (t 0)) 14 v9) 15 v10) 16 v11) 17 v12) 18 (t 0)) 19 v13) 20 v14) 21 v15) 22 v16) 23 v17) 24 v18) 3 v18) 25 (t 0)) 26 v19) 27 v20) 28 v21) 29 (t 0)) 30 v22) 31 v23) 32 v24) 33 v25) 34 v26
  (csel v26
    ((nilchk (t28 0)).bind fun v29 =>
     (fieldA 0 v29).bind fun v30 =>
     (ld false 1 v30 H8).bind fun v31 =>
     (nilchk (t28 0)).bind fun v32 =>
     (fieldA 1 v32).bind fun v33 =>
     (ld false 1 v33 H8).bind fun v34 =>
     (idxA 1 v31 v34).bind fun v35 =>
     (ld false 1 v35 H8).bind fun v36 =>
     (conv (.toInt .i64) (n + 45) v36 H8).bind fun p37 =>
     (binK .plain .add v18 p37.1).bind fun v38 =>
     (binK .plain .and v38 (.int .i64 255)).bind fun v39 =>
     (nilchk (t28 0)).bind fun v40 =>
     (fieldA 1 v40).bind fun v41 =>
     (ld false 1 v41 p37.2).bind fun v42 =>
     (binK .plain .add v42 (.int .i64 1)).bind fun v43 =>
     (nilchk (t28 0)).bind fun v44 =>
     (fieldA 1 v44).bind fun v45 =>
     (st false 1 v45 v43 p37.2).bind fun H46 =>
     some ⟨.normal, put (put (put (put (put (put (put (put (put (put (put (put (put (put (put (put (put (put (put (put (put (put (put t28 35 v18) 36 (t28 0)) 37 v29) 38 v30) 39 v31) 40 (t28 0)) 41 v32) 42 v33) 43 v34) 44 v35) 45 v36) 46 p37.1) 47 v38) 48 v39) 3 v39) 49 (t28 0)) 50 (t28 0)) 51 v40) 52 v41) 53 v42) 54 v43) 55 v44) 56 v45, H46, n + 58⟩)
    (some ⟨.normal, t28, H8, n + 34⟩)
  ).bind fun (o27 : Out) =>
  some (o27.t 3, o27.H, o27.n + 2)
theorem s68 (C : Calling) (L : Body → Body) (t : Tm) (H : Hp) (n : Nat) : bodyK Try.prog C L Try.f68 t H n = S68 C L t H n := by kernel_rfl
theorem c68 (args : List Value) (H : Hp) (n : Nat) : Call Try.prog 68 args H n = S68 (Call Try.prog) Loop (argsT args) H n := (Call_body Try.func68 args H n).trans (s68 ..)
/-! 69: spec.l1PickInt -/
noncomputable def S69 (C : Calling) (L : Body → Body) (t : Tm) (H : Hp) (n : Nat) : Option (Value × Hp × Nat) :=
  (lenV false (t 1)).bind fun v1 =>
  (C 39 [t 0, v1] H (n + 9)).bind fun q2 =>
  (idxA 1 (t 1) q2.1).bind fun v3 =>
  (ld false 1 v3 q2.2.1).bind fun v4 =>
  some (v4, q2.2.1, q2.2.2)
theorem s69 (C : Calling) (L : Body → Body) (t : Tm) (H : Hp) (n : Nat) : bodyK Try.prog C L Try.f69 t H n = S69 C L t H n := by kernel_rfl
theorem c69 (args : List Value) (H : Hp) (n : Nat) : Call Try.prog 69 args H n = S69 (Call Try.prog) Loop (argsT args) H n := (Call_body Try.func69 args H n).trans (s69 ..)
/-! 70: spec.l1Min -/
noncomputable def S70 (C : Calling) (L : Body → Body) (t : Tm) (H : Hp) (n : Nat) : Option (Value × Hp × Nat) :=
  (binK .plain .lss (t 0) (t 1)).bind fun v1 =>
  csel v1
    (some (t 0, H, n + 6))
    (some (t 1, H, n + 6))
theorem s70 (C : Calling) (L : Body → Body) (t : Tm) (H : Hp) (n : Nat) : bodyK Try.prog C L Try.f70 t H n = S70 C L t H n := by kernel_rfl
theorem c70 (args : List Value) (H : Hp) (n : Nat) : Call Try.prog 70 args H n = S70 (Call Try.prog) Loop (argsT args) H n := (Call_body Try.func70 args H n).trans (s70 ..)
/-! 71: impl.Node] -/
noncomputable def S71 (C : Calling) (L : Body → Body) (t : Tm) (H : Hp) (n : Nat) : Option (Value × Hp × Nat) :=
  (binK .slice .eql (t 0) nilS).bind fun v1 =>
  csel v1
    (some (nilS, H, n + 4))
    ((bsl (n + 3) 5 0 [.int .i64 0, .int .i64 0, .string ⟨#[]⟩, .int .i64 0, .int .i64 0] [] H).bind fun p2 =>
     (app (n + 5) 5 48 p2.1 (t 0) p2.2).bind fun p3 =>
     some (p3.1, p3.2, n + 7))
theorem s71 (C : Calling) (L : Body → Body) (t : Tm) (H : Hp) (n : Nat) : bodyK Try.prog C L Try.f71 t H n = S71 C L t H n := by kernel_rfl
theorem c71 (args : List Value) (H : Hp) (n : Nat) : Call Try.prog 71 args H n = S71 (Call Try.prog) Loop (argsT args) H n := (Call_body Try.func71 args H n).trans (s71 ..)
/-! 72: impl.NameOk -/
noncomputable def S72L0 (C : Calling) (L : Body → Body) : Body := fun t H n =>
  (binK .plain .lss (t 10) (t 9)).bind fun v6 =>
  csel v6
    ((idxS (t 0) (t 10)).bind fun v7 =>
     (C 78 [v7] H (n + 8)).bind fun q8 =>
     (un .not q8.1).bind fun v9 =>
     csel v9
       (some ⟨.ret, put (put (put (put (put (put (put (put (put t 11 v6) 12 (t 10)) 3 (t 10)) 13 (t 0)) 14 (t 10)) 15 v7) 16 q8.1) 17 v9) 2 (.bool false), q8.2.1, q8.2.2 + 1⟩)
       ((binK .plain .add (t 10) (.int .i64 1)).bind fun v10 =>
        some ⟨.normal, put (put (put (put (put (put (put (put (put (put t 11 v6) 12 (t 10)) 3 (t 10)) 13 (t 0)) 14 (t 10)) 15 v7) 16 q8.1) 17 v9) 18 v10) 10 v10, q8.2.1, q8.2.2 + 2⟩))
    (some ⟨(.exit 0), put t 11 v6, H, n + 1⟩)
noncomputable def S72 (C : Calling) (L : Body → Body) (t : Tm) (H : Hp) (n : Nat) : Option (Value × Hp × Nat) :=
  (lenV true (t 0)).bind fun v1 =>
  (C 54 [v1, .int .i64 1, .int .i64 12] H (n + 5)).bind fun q2 =>
  (un .not q2.1).bind fun v3 =>
  csel v3
    (some (.bool false, q2.2.1, q2.2.2 + 1))
    ((lenV true (t 0)).bind fun v4 =>
     (L (S72L0 C L) (put (put (put (put (put (put (put (put t 2 (.bool false)) 4 (t 0)) 5 v1) 6 q2.1) 7 v3) 8 (t 0)) 9 v4) 10 (.int .i64 0)) q2.2.1 (q2.2.2 + 3)).bind fun (o5 : Out) =>
     let o11 := outOf 0 o5
     thenK o11
       (some (.bool true, o11.H, o11.n + 1))
       (finE o11.e
          (some (o11.t 2, o11.H, o11.n))))
theorem s72 (C : Calling) (L : Body → Body) (t : Tm) (H : Hp) (n : Nat) : bodyK Try.prog C L Try.f72 t H n = S72 C L t H n := by kernel_rfl
theorem c72 (args : List Value) (H : Hp) (n : Nat) : Call Try.prog 72 args H n = S72 (Call Try.prog) Loop (argsT args) H n := (Call_body Try.func72 args H n).trans (s72 ..)
/-! 73: spec.NameOk -/
noncomputable def S73L0 (C : Calling) (L : Body → Body) : Body := fun t H n =>
  (lenV true (t 0)).bind fun v2 =>
  (binK .plain .lss (t 3) v2).bind fun v3 =>
  csel v3
    ((idxS (t 0) (t 3)).bind fun v4 =>
     (C 79 [v4] H (n + 9)).bind fun q5 =>
     (un .not q5.1).bind fun v6 =>
     csel v6
       (some ⟨.ret, put (put (put (put (put (put (put (put (put (put t 4 (t 3)) 5 (t 0)) 6 v2) 7 v3) 10 (t 0)) 11 (t 3)) 12 v4) 13 q5.1) 14 v6) 2 (.bool false), q5.2.1, q5.2.2 + 1⟩)
       ((binK .plain .add (t 3) (.int .i64 1)).bind fun v7 =>
        some ⟨.normal, put (put (put (put (put (put (put (put (put (put (put (put t 4 (t 3)) 5 (t 0)) 6 v2) 7 v3) 10 (t 0)) 11 (t 3)) 12 v4) 13 q5.1) 14 v6) 8 (t 3)) 9 v7) 3 v7, q5.2.1, q5.2.2 + 3⟩))
    (some ⟨(.exit 0), put (put (put (put t 4 (t 3)) 5 (t 0)) 6 v2) 7 v3, H, n + 4⟩)
noncomputable def S73 (C : Calling) (L : Body → Body) (t : Tm) (H : Hp) (n : Nat) : Option (Value × Hp × Nat) :=
  (L (S73L0 C L) (put (put t 2 (.bool false)) 3 (.int .i64 0)) H (n + 2)).bind fun (o1 : Out) =>
  let o8 := outOf 0 o1
  thenK o8
    ((lenV true (o8.t 0)).bind fun v9 =>
     (C 51 [v9, .int .i64 1, .int .i64 12] o8.H (o8.n + 4)).bind fun q10 =>
     some (q10.1, q10.2.1, q10.2.2))
    (finE o8.e
       (some (o8.t 2, o8.H, o8.n)))
theorem s73 (C : Calling) (L : Body → Body) (t : Tm) (H : Hp) (n : Nat) : bodyK Try.prog C L Try.f73 t H n = S73 C L t H n := by kernel_rfl
theorem c73 (args : List Value) (H : Hp) (n : Nat) : Call Try.prog 73 args H n = S73 (Call Try.prog) Loop (argsT args) H n := (Call_body Try.func73 args H n).trans (s73 ..)
/-! 74: impl.reach -/
noncomputable def S74L1 (C : Calling) (L : Body → Body) : Body := fun t H n =>
  (binK .plain .geq (t 8) (.int .i64 0)).bind fun v20 =>
  csel v20
    (let t22 : Tm := put (put t 28 (t 8)) 29 v20
     Option.bind
       ((idxA 1 (t22 5) (t22 8)).bind fun v23 =>
        (ld false 1 v23 H).bind fun v24 =>
        (un .not v24).bind fun v25 =>
        csel v25
          (some ⟨(.exit 3), put (put (put (put (put t22 32 (t22 5)) 33 (t22 8)) 34 v23) 35 v24) 36 v25, H, n + 7⟩)
          ((fieldA 0 (t22 2)).bind fun v26 =>
           (ld false 1 v26 H).bind fun v27 =>
           (idxA 5 v27 (t22 8)).bind fun v28 =>
           (ld true 5 v28 H).bind fun v29 =>
           let H30 := H.set (n + 12) (some (.row [.int .i64 0, .int .i64 0, .string ⟨#[]⟩, .int .i64 0, .int .i64 0] 0 true))
           (st true 5 (ptr (n + 12) 0) v29 H30).bind fun H31 =>
           (fieldA 0 (ptr (n + 12) 0)).bind fun v32 =>
           (ld false 1 v32 H31).bind fun v33 =>
           (binK .plain .eql v33 (.int .i64 5)).bind fun v34 =>
           let t36 : Tm := put (put (put (put (put (put (put (put (put (put (put (put (put (put (put t22 32 (t22 5)) 33 (t22 8)) 34 v23) 35 v24) 36 v25) 37 v26) 38 v27) 39 (t22 8)) 40 v28) 41 v29) 9 (ptr (n + 12) 0)) 42 v32) 43 v33) 45 v34) 44 v34
           (csel v34
             ((fieldA 3 (ptr (n + 12) 0)).bind fun v37 =>
              (ld false 1 v37 H31).bind fun v38 =>
              (idxA 1 (t36 5) v38).bind fun v39 =>
              (st false 1 v39 (.bool true) H31).bind fun H40 =>
              (fieldA 4 (ptr (n + 12) 0)).bind fun v41 =>
              (ld false 1 v41 H40).bind fun v42 =>
              (idxA 1 (t36 5) v42).bind fun v43 =>
              (st false 1 v43 (.bool true) H40).bind fun H44 =>
              some ⟨.normal, put (put (put (put (put (put (put (put t36 46 (t36 5)) 47 v37) 48 v38) 49 v39) 50 (t36 5)) 51 v41) 52 v42) 53 v43, H44, n + 28⟩)
             ((binK .plain .eql v33 (.int .i64 6)).bind fun v45 =>
              let t47 : Tm := put (put t36 55 v45) 54 v45
              (csel v45
                (some ⟨.normal, t47, H31, n + 20⟩)
                ((binK .plain .eql v33 (.int .i64 7)).bind fun v48 =>
                 some ⟨.normal, put (put t47 56 v48) 54 v48, H31, n + 22⟩)
              ).bind fun (o46 : Out) =>
              (csel (o46.t 54)
                ((fieldA 3 (o46.t 9)).bind fun v51 =>
                 (ld false 1 v51 o46.H).bind fun v52 =>
                 (idxA 1 (o46.t 5) v52).bind fun v53 =>
                 (st false 1 v53 (.bool true) o46.H).bind fun H54 =>
                 some ⟨.normal, put (put (put (put o46.t 57 (o46.t 5)) 58 v51) 59 v52) 60 v53, H54, o46.n + 5⟩)
                (some ⟨.normal, o46.t, o46.H, o46.n⟩)
              ).bind fun (o49 : Out) =>
              some ⟨.normal, o49.t, o49.H, o49.n⟩)
           ).bind fun (o35 : Out) =>
           some ⟨.normal, o35.t, o35.H, o35.n⟩))
     fun (o21 : Out) =>
     (binK .plain .sub (o21.t 8) (.int .i64 1)).bind fun v55 =>
     some ⟨.normal, put (put (put o21.t 30 (o21.t 8)) 31 v55) 8 v55, o21.H, o21.n + 3⟩)
    (some ⟨(.exit 2), put (put t 28 (t 8)) 29 v20, H, n + 2⟩)
noncomputable def S74L0 (C : Calling) (L : Body → Body) : Body := fun t H n =>
  (binK .plain .lss (t 16) (t 15)).bind fun v9 =>
  csel v9
    ((idxA 1 (t 14) (t 16)).bind fun v10 =>
     (ld false 1 v10 H).bind fun v11 =>
     (idxA 1 (t 5) v11).bind fun v12 =>
     (st false 1 v12 (.bool true) H).bind fun H13 =>
     (binK .plain .add (t 16) (.int .i64 1)).bind fun v14 =>
     some ⟨.normal, put (put (put (put (put (put (put (put (put t 17 v9) 18 v10) 19 v11) 7 v11) 20 (t 5)) 21 v11) 22 v12) 23 v14) 16 v14, H13, n + 10⟩)
    (some ⟨(.exit 0), put t 17 v9, H, n + 1⟩)
noncomputable def S74 (C : Calling) (L : Body → Body) (t : Tm) (H : Hp) (n : Nat) : Option (Value × Hp × Nat) :=
  (vcells (t 0)).bind fun c2 =>
  let H1 := H.set (n) (some (.row c2 0 true))
  (fieldA 0 (ptr (n) 0)).bind fun v3 =>
  (ld false 1 v3 H1).bind fun v4 =>
  (lenV false v4).bind fun v5 =>
  (mks (n + 5) 1 1 [.bool false] v5 v5 H1).bind fun p6 =>
  (lenV false (t 1)).bind fun v7 =>
  (L (S74L0 C L) (put (put (put (put (put (put (put (put (put (put t 2 (ptr (n) 0)) 4 nilS) 10 v3) 11 v4) 12 v5) 13 p6.1) 5 p6.1) 14 (t 1)) 15 v7) 16 (.int .i64 0)) p6.2 (n + 10)).bind fun (o8 : Out) =>
  (fieldA 0 (o8.t 2)).bind fun v15 =>
  (ld false 1 v15 o8.H).bind fun v16 =>
  (lenV false v16).bind fun v17 =>
  (binK .plain .sub v17 (.int .i64 1)).bind fun v18 =>
  (L (S74L1 C L) (put (put (put (put (put o8.t 24 v15) 25 v16) 26 v17) 27 v18) 8 v18) o8.H (o8.n + 5)).bind fun (o19 : Out) =>
  some (o19.t 5, o19.H, o19.n + 2)
theorem s74 (C : Calling) (L : Body → Body) (t : Tm) (H : Hp) (n : Nat) : bodyK Try.prog C L Try.f74 t H n = S74 C L t H n := by kernel_rfl
theorem c74 (args : List Value) (H : Hp) (n : Nat) : Call Try.prog 74 args H n = S74 (Call Try.prog) Loop (argsT args) H n := (Call_body Try.func74 args H n).trans (s74 ..)
/-! 75: impl.Pool).add -/
noncomputable def S75 (C : Calling) (L : Body → Body) (t : Tm) (H : Hp) (n : Nat) : Option (Value × Hp × Nat) :=
  (vcells (t 1)).bind fun c2 =>
  let H1 := H.set (n) (some (.row c2 0 true))
  (nilchk (t 0)).bind fun v3 =>
  (fieldA 0 v3).bind fun v4 =>
  (ld false 1 v4 H1).bind fun v5 =>
  (ld true 5 (ptr (n) 0) H1).bind fun v6 =>
  (bsl (n + 8) 5 1 [.int .i64 0, .int .i64 0, .string ⟨#[]⟩, .int .i64 0, .int .i64 0] [(0, 5, v6)] H1).bind fun p7 =>
  (app (n + 9) 5 48 v5 p7.1 p7.2).bind fun p8 =>
  (nilchk (t 0)).bind fun v9 =>
  (fieldA 0 v9).bind fun v10 =>
  (st false 1 v10 p8.1 p8.2).bind fun H11 =>
  (nilchk (t 0)).bind fun v12 =>
  (fieldA 0 v12).bind fun v13 =>
  (ld false 1 v13 H11).bind fun v14 =>
  (lenV false v14).bind fun v15 =>
  (binK .plain .sub v15 (.int .i64 1)).bind fun v16 =>
  some (v16, H11, n + 20)
theorem s75 (C : Calling) (L : Body → Body) (t : Tm) (H : Hp) (n : Nat) : bodyK Try.prog C L Try.f75 t H n = S75 C L t H n := by kernel_rfl
theorem c75 (args : List Value) (H : Hp) (n : Nat) : Call Try.prog 75 args H n = S75 (Call Try.prog) Loop (argsT args) H n := (Call_body Try.func75 args H n).trans (s75 ..)
/-! 76: spec.l2DrawNode -/
noncomputable def S76 (C : Calling) (L : Body → Body) (t : Tm) (H : Hp) (n : Nat) : Option (Value × Hp × Nat) :=
  let H1 := H.set (n) (some (.row [.int .i64 0, .int .i64 0, .string ⟨#[]⟩, .int .i64 0, .int .i64 0] 0 true))
  (binK .plain .eql (t 1) (.int .i64 0)).bind fun v2 =>
  let t4 : Tm := put (put (put (put t 4 (ptr (n) 0)) 6 (t 1)) 7 v2) 8 v2
  (gsel v2 false
    ((C 38 [t4 0, .int .i64 2] H1 (n + 7)).bind fun q5 =>
     some (put (put t4 9 (t4 0)) 10 q5.1, q5.2.1, q5.2.2))
    (some (put (put t4 9 (.tuple #[])) 10 (.tuple #[]), H1, n + 7))
  ).bind fun (q3 : R3) =>
  (pickV (q3.1 8) (.bool true) (q3.1 10)).bind fun v6 =>
  csel v6
    ((C 80 [q3.1 0] q3.2.1 (q3.2.2 + 3)).bind fun q7 =>
     (st true 5 (q3.1 4) q7.1 q7.2.1).bind fun H8 =>
     (ld true 5 (q3.1 4) H8).bind fun v9 =>
     some (v9, H8, q7.2.2))
    ((binK .plain .sub (q3.1 1) (.int .i64 1)).bind fun v10 =>
     (C 70 [q3.1 1, .int .i64 5] q3.2.1 (q3.2.2 + 8)).bind fun q11 =>
     (C 39 [q3.1 0, q11.1] q11.2.1 (q11.2.2)).bind fun q12 =>
     (binK .plain .sub v10 q12.1).bind fun v13 =>
     (C 39 [q3.1 0, .int .i64 8] q12.2.1 (q12.2.2 + 2)).bind fun q14 =>
     (binK .plain .eql q14.1 (.int .i64 0)).bind fun v15 =>
     csel v15
       ((C 39 [q3.1 0, .int .i64 9] q14.2.1 (q14.2.2 + 7)).bind fun q16 =>
        (bld [.int .i64 0, .int .i64 0, .string ⟨#[]⟩, .int .i64 0, .int .i64 0] [(0, 1, .int .i64 6), (1, 1, q16.1), (3, 1, v13)]).bind fun v17 =>
        (st true 5 (q3.1 4) v17 q16.2.1).bind fun H18 =>
        (ld true 5 (q3.1 4) H18).bind fun v19 =>
        some (v19, H18, q16.2.2))
       ((binK .plain .eql q14.1 (.int .i64 1)).bind fun v20 =>
        csel v20
          ((bld [.int .i64 0, .int .i64 0, .string ⟨#[]⟩, .int .i64 0, .int .i64 0] [(0, 1, .int .i64 7), (3, 1, v13)]).bind fun v21 =>
           (st true 5 (q3.1 4) v21 q14.2.1).bind fun H22 =>
           (ld true 5 (q3.1 4) H22).bind fun v23 =>
           some (v23, H22, q14.2.2 + 7))
          ((binK .plain .sub (q3.1 1) (.int .i64 1)).bind fun v24 =>
           (C 70 [q3.1 1, .int .i64 4] q14.2.1 (q14.2.2 + 14)).bind fun q25 =>
           (C 39 [q3.1 0, q25.1] q25.2.1 (q25.2.2)).bind fun q26 =>
           (binK .plain .sub v24 q26.1).bind fun v27 =>
           (bld [.int .i64 0, .int .i64 0, .string ⟨#[]⟩, .int .i64 0, .int .i64 0] [(0, 1, .int .i64 5), (3, 1, v13), (4, 1, v27)]).bind fun v28 =>
           (st true 5 (q3.1 4) v28 q26.2.1).bind fun H29 =>
           (ld true 5 (q3.1 4) H29).bind fun v30 =>
           some (v30, H29, q26.2.2))))
theorem s76 (C : Calling) (L : Body → Body) (t : Tm) (H : Hp) (n : Nat) : bodyK Try.prog C L Try.f76 t H n = S76 C L t H n := by kernel_rfl
theorem c76 (args : List Value) (H : Hp) (n : Nat) : Call Try.prog 76 args H n = S76 (Call Try.prog) Loop (argsT args) H n := (Call_body Try.func76 args H n).trans (s76 ..)
/-! 77: spec.l1Pick -/
noncomputable def S77 (C : Calling) (L : Body → Body) (t : Tm) (H : Hp) (n : Nat) : Option (Value × Hp × Nat) :=
  (lenV false (t 1)).bind fun v1 =>
  (C 39 [t 0, v1] H (n + 9)).bind fun q2 =>
  (idxA 1 (t 1) q2.1).bind fun v3 =>
  (ld false 1 v3 q2.2.1).bind fun v4 =>
  some (v4, q2.2.1, q2.2.2)
theorem s77 (C : Calling) (L : Body → Body) (t : Tm) (H : Hp) (n : Nat) : bodyK Try.prog C L Try.f77 t H n = S77 C L t H n := by kernel_rfl
theorem c77 (args : List Value) (H : Hp) (n : Nat) : Call Try.prog 77 args H n = S77 (Call Try.prog) Loop (argsT args) H n := (Call_body Try.func77 args H n).trans (s77 ..)
/-! 78: impl.isNameByte -/
noncomputable def S78 (C : Calling) (L : Body → Body) (t : Tm) (H : Hp) (n : Nat) : Option (Value × Hp × Nat) :=
  (binK .plain .geq (t 0) (.int .u8 97)).bind fun v1 =>
  let t3 : Tm := put (put (put (put t 2 (.bool false)) 3 (t 0)) 4 v1) 5 v1
  (gsel v1 true
    ((binK .plain .leq (t3 0) (.int .u8 122)).bind fun v4 =>
     some (put (put t3 6 (t3 0)) 7 v4, H, n + 14))
    (some (put (put t3 6 (.tuple #[])) 7 (.tuple #[]), H, n + 14))
  ).bind fun (q2 : R3) =>
  (pickV (q2.1 5) (q2.1 7) (.bool false)).bind fun v5 =>
  let t7 : Tm := put (put q2.1 8 v5) 9 v5
  (gsel v5 false
    ((bsl (n + 8) 1 8 [.int .u8 0] [(0, 1, .int .u8 43), (1, 1, .int .u8 45), (2, 1, .int .u8 42), (3, 1, .int .u8 60), (4, 1, .int .u8 61), (5, 1, .int .u8 63), (6, 1, .int .u8 33), (7, 1, .int .u8 47)] q2.2.1).bind fun p8 =>
     (conv .mark (n + 9) p8.1 p8.2).bind fun p9 =>
     (C 81 [p9.1, t7 0] p9.2 (q2.2.2)).bind fun q10 =>
     some (put (put (put (put t7 10 p8.1) 11 p9.1) 12 (t7 0)) 13 q10.1, q10.2.1, q10.2.2))
    (some (put (put (put (put t7 10 (.tuple #[])) 11 (.tuple #[])) 12 (.tuple #[])) 13 (.tuple #[]), q2.2.1, q2.2.2))
  ).bind fun (q6 : R3) =>
  (pickV (q6.1 9) (.bool true) (q6.1 13)).bind fun v11 =>
  some (v11, q6.2.1, q6.2.2)
theorem s78 (C : Calling) (L : Body → Body) (t : Tm) (H : Hp) (n : Nat) : bodyK Try.prog C L Try.f78 t H n = S78 C L t H n := by kernel_rfl
theorem c78 (args : List Value) (H : Hp) (n : Nat) : Call Try.prog 78 args H n = S78 (Call Try.prog) Loop (argsT args) H n := (Call_body Try.func78 args H n).trans (s78 ..)
/-! 79: spec.l2NameByte -/
noncomputable def S79 (C : Calling) (L : Body → Body) (t : Tm) (H : Hp) (n : Nat) : Option (Value × Hp × Nat) :=
  (binK .plain .geq (t 0) (.int .u8 97)).bind fun v1 =>
  let t3 : Tm := put (put (put (put t 2 (.bool false)) 3 (t 0)) 4 v1) 5 v1
  (gsel v1 true
    ((binK .plain .leq (t3 0) (.int .u8 122)).bind fun v4 =>
     some (put (put t3 6 (t3 0)) 7 v4, H, n + 40))
    (some (put (put t3 6 (.tuple #[])) 7 (.tuple #[]), H, n + 40))
  ).bind fun (q2 : R3) =>
  (pickV (q2.1 5) (q2.1 7) (.bool false)).bind fun v5 =>
  let t7 : Tm := put (put q2.1 8 v5) 9 v5
  (gsel v5 false
    ((binK .plain .eql (t7 0) (.int .u8 43)).bind fun v8 =>
     some (put (put t7 10 (t7 0)) 11 v8, q2.2.1, q2.2.2))
    (some (put (put t7 10 (.tuple #[])) 11 (.tuple #[]), q2.2.1, q2.2.2))
  ).bind fun (q6 : R3) =>
  (pickV (q6.1 9) (.bool true) (q6.1 11)).bind fun v9 =>
  let t11 : Tm := put (put q6.1 12 v9) 13 v9
  (gsel v9 false
    ((binK .plain .eql (t11 0) (.int .u8 45)).bind fun v12 =>
     some (put (put t11 14 (t11 0)) 15 v12, q6.2.1, q6.2.2))
    (some (put (put t11 14 (.tuple #[])) 15 (.tuple #[]), q6.2.1, q6.2.2))
  ).bind fun (q10 : R3) =>
  (pickV (q10.1 13) (.bool true) (q10.1 15)).bind fun v13 =>
  let t15 : Tm := put (put q10.1 16 v13) 17 v13
  (gsel v13 false
    ((binK .plain .eql (t15 0) (.int .u8 42)).bind fun v16 =>
     some (put (put t15 18 (t15 0)) 19 v16, q10.2.1, q10.2.2))
    (some (put (put t15 18 (.tuple #[])) 19 (.tuple #[]), q10.2.1, q10.2.2))
  ).bind fun (q14 : R3) =>
  (pickV (q14.1 17) (.bool true) (q14.1 19)).bind fun v17 =>
  let t19 : Tm := put (put q14.1 20 v17) 21 v17
  (gsel v17 false
    ((binK .plain .eql (t19 0) (.int .u8 60)).bind fun v20 =>
     some (put (put t19 22 (t19 0)) 23 v20, q14.2.1, q14.2.2))
    (some (put (put t19 22 (.tuple #[])) 23 (.tuple #[]), q14.2.1, q14.2.2))
  ).bind fun (q18 : R3) =>
  (pickV (q18.1 21) (.bool true) (q18.1 23)).bind fun v21 =>
  let t23 : Tm := put (put q18.1 24 v21) 25 v21
  (gsel v21 false
    ((binK .plain .eql (t23 0) (.int .u8 61)).bind fun v24 =>
     some (put (put t23 26 (t23 0)) 27 v24, q18.2.1, q18.2.2))
    (some (put (put t23 26 (.tuple #[])) 27 (.tuple #[]), q18.2.1, q18.2.2))
  ).bind fun (q22 : R3) =>
  (pickV (q22.1 25) (.bool true) (q22.1 27)).bind fun v25 =>
  let t27 : Tm := put (put q22.1 28 v25) 29 v25
  (gsel v25 false
    ((binK .plain .eql (t27 0) (.int .u8 63)).bind fun v28 =>
     some (put (put t27 30 (t27 0)) 31 v28, q22.2.1, q22.2.2))
    (some (put (put t27 30 (.tuple #[])) 31 (.tuple #[]), q22.2.1, q22.2.2))
  ).bind fun (q26 : R3) =>
  (pickV (q26.1 29) (.bool true) (q26.1 31)).bind fun v29 =>
  let t31 : Tm := put (put q26.1 32 v29) 33 v29
  (gsel v29 false
    ((binK .plain .eql (t31 0) (.int .u8 33)).bind fun v32 =>
     some (put (put t31 34 (t31 0)) 35 v32, q26.2.1, q26.2.2))
    (some (put (put t31 34 (.tuple #[])) 35 (.tuple #[]), q26.2.1, q26.2.2))
  ).bind fun (q30 : R3) =>
  (pickV (q30.1 33) (.bool true) (q30.1 35)).bind fun v33 =>
  let t35 : Tm := put (put q30.1 36 v33) 37 v33
  (gsel v33 false
    ((binK .plain .eql (t35 0) (.int .u8 47)).bind fun v36 =>
     some (put (put t35 38 (t35 0)) 39 v36, q30.2.1, q30.2.2))
    (some (put (put t35 38 (.tuple #[])) 39 (.tuple #[]), q30.2.1, q30.2.2))
  ).bind fun (q34 : R3) =>
  (pickV (q34.1 37) (.bool true) (q34.1 39)).bind fun v37 =>
  some (v37, q34.2.1, q34.2.2)
theorem s79 (C : Calling) (L : Body → Body) (t : Tm) (H : Hp) (n : Nat) : bodyK Try.prog C L Try.f79 t H n = S79 C L t H n := by kernel_rfl
theorem c79 (args : List Value) (H : Hp) (n : Nat) : Call Try.prog 79 args H n = S79 (Call Try.prog) Loop (argsT args) H n := (Call_body Try.func79 args H n).trans (s79 ..)
/-! 80: spec.l2DrawAtom -/
noncomputable def S80 (C : Calling) (L : Body → Body) (t : Tm) (H : Hp) (n : Nat) : Option (Value × Hp × Nat) :=
  let H1 := H.set (n) (some (.row [.int .i64 0, .int .i64 0, .string ⟨#[]⟩, .int .i64 0, .int .i64 0] 0 true))
  (C 39 [t 0, .int .i64 8] H1 (n + 3)).bind fun q2 =>
  (binK .plain .eql q2.1 (.int .i64 0)).bind fun v3 =>
  csel v3
    ((bld [.int .i64 0, .int .i64 0, .string ⟨#[]⟩, .int .i64 0, .int .i64 0] [(0, 1, .int .i64 1)]).bind fun v4 =>
     (st true 5 (ptr (n) 0) v4 q2.2.1).bind fun H5 =>
     (ld true 5 (ptr (n) 0) H5).bind fun v6 =>
     some (v6, H5, q2.2.2 + 4))
    ((binK .plain .eql q2.1 (.int .i64 1)).bind fun v7 =>
     csel v7
       ((C 39 [t 0, .int .i64 2] q2.2.1 (q2.2.2 + 8)).bind fun q8 =>
        (bld [.int .i64 0, .int .i64 0, .string ⟨#[]⟩, .int .i64 0, .int .i64 0] [(0, 1, .int .i64 2), (1, 1, q8.1)]).bind fun v9 =>
        (st true 5 (ptr (n) 0) v9 q8.2.1).bind fun H10 =>
        (ld true 5 (ptr (n) 0) H10).bind fun v11 =>
        some (v11, H10, q8.2.2))
       ((binK .plain .eql q2.1 (.int .i64 2)).bind fun v12 =>
        csel v12
          ((bsl (q2.2.2 + 7) 1 6 [.string ⟨#[]⟩] [(0, 1, .string ⟨#[97]⟩), (1, 1, .string ⟨#[98, 99]⟩), (2, 1, .string ⟨#[120]⟩), (3, 1, .string ⟨#[102]⟩), (4, 1, .string ⟨#[43]⟩), (5, 1, .string ⟨#[108, 105, 115, 116]⟩)] q2.2.1).bind fun p13 =>
           (C 77 [t 0, p13.1] p13.2 (q2.2.2 + 11)).bind fun q14 =>
           (bld [.int .i64 0, .int .i64 0, .string ⟨#[]⟩, .int .i64 0, .int .i64 0] [(0, 1, .int .i64 4), (2, 1, q14.1)]).bind fun v15 =>
           (st true 5 (ptr (n) 0) v15 q14.2.1).bind fun H16 =>
           (ld true 5 (ptr (n) 0) H16).bind fun v17 =>
           some (v17, H16, q14.2.2))
          ((binK .plain .eql q2.1 (.int .i64 3)).bind fun v18 =>
           csel v18
             ((C 39 [t 0, .int .i64 5] q2.2.1 (q2.2.2 + 12)).bind fun q19 =>
              (bld [.int .i64 0, .int .i64 0, .string ⟨#[]⟩, .int .i64 0, .int .i64 0] [(0, 1, .int .i64 9), (1, 1, q19.1)]).bind fun v20 =>
              (st true 5 (ptr (n) 0) v20 q19.2.1).bind fun H21 =>
              (ld true 5 (ptr (n) 0) H21).bind fun v22 =>
              some (v22, H21, q19.2.2))
             ((binK .plain .eql q2.1 (.int .i64 4)).bind fun v23 =>
              csel v23
                ((C 39 [t 0, .int .i64 5] q2.2.1 (q2.2.2 + 14)).bind fun q24 =>
                 (bld [.int .i64 0, .int .i64 0, .string ⟨#[]⟩, .int .i64 0, .int .i64 0] [(0, 1, .int .i64 8), (1, 1, q24.1)]).bind fun v25 =>
                 (st true 5 (ptr (n) 0) v25 q24.2.1).bind fun H26 =>
                 (ld true 5 (ptr (n) 0) H26).bind fun v27 =>
                 some (v27, H26, q24.2.2))
                ((C 39 [t 0, .int .i64 12] q2.2.1 (q2.2.2 + 15)).bind fun q28 =>
                 (binK .plain .sub q28.1 (.int .i64 3)).bind fun v29 =>
                 (bld [.int .i64 0, .int .i64 0, .string ⟨#[]⟩, .int .i64 0, .int .i64 0] [(0, 1, .int .i64 3), (1, 1, v29)]).bind fun v30 =>
                 (st true 5 (ptr (n) 0) v30 q28.2.1).bind fun H31 =>
                 (ld true 5 (ptr (n) 0) H31).bind fun v32 =>
                 some (v32, H31, q28.2.2))))))
theorem s80 (C : Calling) (L : Body → Body) (t : Tm) (H : Hp) (n : Nat) : bodyK Try.prog C L Try.f80 t H n = S80 C L t H n := by kernel_rfl
theorem c80 (args : List Value) (H : Hp) (n : Nat) : Call Try.prog 80 args H n = S80 (Call Try.prog) Loop (argsT args) H n := (Call_body Try.func80 args H n).trans (s80 ..)
/-! 81: slices.Contains[[]byte,byte] -/
noncomputable def S81 (C : Calling) (L : Body → Body) (t : Tm) (H : Hp) (n : Nat) : Option (Value × Hp × Nat) :=
  (C 82 [t 0, t 1] H (n + 6)).bind fun q1 =>
  (binK .plain .geq q1.1 (.int .i64 0)).bind fun v2 =>
  some (v2, q1.2.1, q1.2.2)
theorem s81 (C : Calling) (L : Body → Body) (t : Tm) (H : Hp) (n : Nat) : bodyK Try.prog C L Try.f81 t H n = S81 C L t H n := by kernel_rfl
theorem c81 (args : List Value) (H : Hp) (n : Nat) : Call Try.prog 81 args H n = S81 (Call Try.prog) Loop (argsT args) H n := (Call_body Try.func81 args H n).trans (s81 ..)
/-! 82: slices.Index[[]byte,byte] -/
noncomputable def S82L0 (C : Calling) (L : Body → Body) : Body := fun t H n =>
  (binK .plain .lss (t 8) (t 7)).bind fun v3 =>
  csel v3
    ((idxA 1 (t 0) (t 8)).bind fun v4 =>
     (ld false 1 v4 H).bind fun v5 =>
     (binK .plain .eql (t 1) v5).bind fun v6 =>
     csel v6
       (some ⟨.ret, put (put (put (put (put (put (put (put (put (put (put t 9 v3) 10 (t 8)) 5 (t 8)) 11 (t 1)) 12 (t 0)) 13 (t 8)) 14 v4) 15 v5) 16 v6) 17 (t 8)) 4 (t 8), H, n + 11⟩)
       ((binK .plain .add (t 8) (.int .i64 1)).bind fun v7 =>
        some ⟨.normal, put (put (put (put (put (put (put (put (put (put (put t 9 v3) 10 (t 8)) 5 (t 8)) 11 (t 1)) 12 (t 0)) 13 (t 8)) 14 v4) 15 v5) 16 v6) 18 v7) 8 v7, H, n + 11⟩))
    (some ⟨(.exit 0), put t 9 v3, H, n + 1⟩)
noncomputable def S82 (C : Calling) (L : Body → Body) (t : Tm) (H : Hp) (n : Nat) : Option (Value × Hp × Nat) :=
  (lenV false (t 0)).bind fun v1 =>
  (L (S82L0 C L) (put (put (put (put t 4 (.int .i64 0)) 6 (t 0)) 7 v1) 8 (.int .i64 0)) H (n + 4)).bind fun (o2 : Out) =>
  let o8 := outOf 0 o2
  thenK o8
    (some (.int .i64 (-1), o8.H, o8.n + 1))
    (finE o8.e
       (some (o8.t 4, o8.H, o8.n)))
theorem s82 (C : Calling) (L : Body → Body) (t : Tm) (H : Hp) (n : Nat) : bodyK Try.prog C L Try.f82 t H n = S82 C L t H n := by kernel_rfl
theorem c82 (args : List Value) (H : Hp) (n : Nat) : Call Try.prog 82 args H n = S82 (Call Try.prog) Loop (argsT args) H n := (Call_body Try.func82 args H n).trans (s82 ..)
end Go.Proofs.Ytdnokdgkccnbnaa.Ax
