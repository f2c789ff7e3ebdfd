/- What the bodies of some functions come to in the abstract machine. -/
import Derived.Test.YtpkaeflmonpliaaProg
import Derived.Test.YtpkaeflmonpliaaAx3
set_option linter.unusedVariables false
namespace Go.Proofs.Ytpkaeflmonpliaa.Ax
open Go
set_option maxRecDepth 100000
/-! 3: laws.FnExactPutNum -/
noncomputable def S3 (C : Calling) (L : Body → Body) (t : Tm) (H : Hp) (n : Nat) : Option (Value × Hp × Nat) :=
  (C 9 [t 0] H (n + 4)).bind fun q1 =>
  (C 10 [t 0] q1.2.1 (q1.2.2 + 3)).bind fun q2 =>
  (C 11 [q2.1, q1.1] q2.2.1 (q2.2.2 + 4)).bind fun q3 =>
  (un .not q3.1).bind fun v4 =>
  csel v4
    (some (.bool false, q3.2.1, q3.2.2 + 1))
    ((C 12 [q2.1, .int .i64 1] q3.2.1 (q3.2.2 + 5)).bind fun q5 =>
     (C 13 [q2.1, .int .i64 1] q5.2.1 (q5.2.2 + 5)).bind fun q6 =>
     (binK .plain .lss q6.1 (.int .i64 0)).bind fun v7 =>
     csel v7
       (some (.bool false, q6.2.1, q6.2.2 + 3))
       ((binK .plain .neq q6.1 q5.1).bind fun v8 =>
        csel v8
          (some (.bool false, q6.2.1, q6.2.2 + 6))
          ((C 10 [t 0] q6.2.1 (q6.2.2 + 8)).bind fun q9 =>
           (C 11 [q9.1, q1.1] q9.2.1 (q9.2.2 + 4)).bind fun q10 =>
           (un .not q10.1).bind fun v11 =>
           csel v11
             (some (.bool false, q10.2.1, q10.2.2 + 1))
             ((C 13 [q2.1, .int .i64 1] q10.2.1 (q10.2.2 + 5)).bind fun q12 =>
              (binK .plain .lss q12.1 (.int .i64 0)).bind fun v13 =>
              csel v13
                (some (.bool false, q12.2.1, q12.2.2 + 3))
                ((binK .plain .neq q12.1 q5.1).bind fun v14 =>
                 csel v14
                   (some (.bool false, q12.2.1, q12.2.2 + 6))
                   (some (.bool true, q12.2.1, q12.2.2 + 6)))))))
theorem s3 (C : Calling) (L : Body → Body) (t : Tm) (H : Hp) (n : Nat) : bodyK Try.prog C L Try.f3 t H n = S3 C L t H n := by kernel_rfl
theorem c3 (args : List Value) (H : Hp) (n : Nat) : Call Try.prog 3 args H n = S3 (Call Try.prog) Loop (argsT args) H n := (Call_body Try.func3 args H n).trans (s3 ..)
/-! 4: laws.FnExactPutText -/
noncomputable def S4 (C : Calling) (L : Body → Body) (t : Tm) (H : Hp) (n : Nat) : Option (Value × Hp × Nat) :=
  (lenV true (t 0)).bind fun v1 =>
  (binK .plain .gtr v1 (.int .i64 1048576)).bind fun v2 =>
  csel v2
    (some (.bool true, H, n + 5))
    ((C 14 [t 0] H (n + 7)).bind fun q3 =>
     (C 15 [t 0] q3.2.1 (q3.2.2 + 3)).bind fun q4 =>
     (C 11 [q4.1, q3.1] q4.2.1 (q4.2.2 + 4)).bind fun q5 =>
     (un .not q5.1).bind fun v6 =>
     csel v6
       (some (.bool false, q5.2.1, q5.2.2 + 1))
       ((C 12 [q4.1, .int .i64 1] q5.2.1 (q5.2.2 + 5)).bind fun q7 =>
        (C 13 [q4.1, .int .i64 1] q7.2.1 (q7.2.2 + 5)).bind fun q8 =>
        (binK .plain .lss q8.1 (.int .i64 0)).bind fun v9 =>
        csel v9
          (some (.bool false, q8.2.1, q8.2.2 + 3))
          ((binK .plain .neq q8.1 q7.1).bind fun v10 =>
           csel v10
             (some (.bool false, q8.2.1, q8.2.2 + 6))
             ((C 15 [t 0] q8.2.1 (q8.2.2 + 8)).bind fun q11 =>
              (C 11 [q11.1, q3.1] q11.2.1 (q11.2.2 + 4)).bind fun q12 =>
              (un .not q12.1).bind fun v13 =>
              csel v13
                (some (.bool false, q12.2.1, q12.2.2 + 1))
                ((C 13 [q4.1, .int .i64 1] q12.2.1 (q12.2.2 + 5)).bind fun q14 =>
                 (binK .plain .lss q14.1 (.int .i64 0)).bind fun v15 =>
                 csel v15
                   (some (.bool false, q14.2.1, q14.2.2 + 3))
                   ((binK .plain .neq q14.1 q7.1).bind fun v16 =>
                    csel v16
                      (some (.bool false, q14.2.1, q14.2.2 + 6))
                      (some (.bool true, q14.2.1, q14.2.2 + 6))))))))
theorem s4 (C : Calling) (L : Body → Body) (t : Tm) (H : Hp) (n : Nat) : bodyK Try.prog C L Try.f4 t H n = S4 C L t H n := by kernel_rfl
theorem c4 (args : List Value) (H : Hp) (n : Nat) : Call Try.prog 4 args H n = S4 (Call Try.prog) Loop (argsT args) H n := (Call_body Try.func4 args H n).trans (s4 ..)
/-! 9: spec.PutNum -/
noncomputable def S9L0 (C : Calling) (L : Body → Body) : Body := fun t H n =>
  (binK .plain .gtr (t 0) (.int .i64 127)).bind fun v4 =>
  csel v4
    ((binK .plain .rem (t 0) (.int .i64 128)).bind fun v5 =>
     (binK .plain .add v5 (.int .i64 128)).bind fun v6 =>
     (conv (.toInt .u8) (n + 6) v6 H).bind fun p7 =>
     (bsl (n + 7) 1 1 [.int .u8 0] [(0, 1, p7.1)] p7.2).bind fun p8 =>
     (app (n + 8) 1 1 (t 3) p8.1 p8.2).bind fun p9 =>
     (binK .plain .quo (t 0) (.int .i64 128)).bind fun v10 =>
     some ⟨.normal, put (put (put (put (put (put (put (put (put (put (put (put (put t 8 (t 0)) 9 v4) 10 (t 3)) 11 (t 0)) 12 v5) 13 v6) 14 p7.1) 15 p8.1) 16 p9.1) 3 p9.1) 17 (t 0)) 18 v10) 0 v10, p9.2, n + 13⟩)
    (some ⟨(.exit 0), put (put t 8 (t 0)) 9 v4, H, n + 2⟩)
noncomputable def S9 (C : Calling) (L : Body → Body) (t : Tm) (H : Hp) (n : Nat) : Option (Value × Hp × Nat) :=
  (bsl (n + 1) 1 0 [.int .u8 0] [] H).bind fun p1 =>
  (binK .plain .lss (t 0) (.int .i64 0)).bind fun v2 =>
  csel v2
    (some (p1.1, p1.2, n + 7))
    ((L (S9L0 C L) (put (put (put (put (put t 2 nilS) 4 p1.1) 3 p1.1) 5 (t 0)) 6 v2) p1.2 (n + 5)).bind fun (o3 : Out) =>
     (conv (.toInt .u8) (o3.n + 2) (o3.t 0) o3.H).bind fun p11 =>
     (bsl (o3.n + 3) 1 1 [.int .u8 0] [(0, 1, p11.1)] p11.2).bind fun p12 =>
     (app (o3.n + 4) 1 1 (o3.t 3) p12.1 p12.2).bind fun p13 =>
     some (p13.1, p13.2, o3.n + 6))
theorem s9 (C : Calling) (L : Body → Body) (t : Tm) (H : Hp) (n : Nat) : bodyK Try.prog C L Try.f9 t H n = S9 C L t H n := by kernel_rfl
theorem c9 (args : List Value) (H : Hp) (n : Nat) : Call Try.prog 9 args H n = S9 (Call Try.prog) Loop (argsT args) H n := (Call_body Try.func9 args H n).trans (s9 ..)
/-! 10: impl.PutNum -/
noncomputable def S10L0 (C : Calling) (L : Body → Body) : Body := fun t H n =>
  (binK .plain .gtr (t 0) (.int .i64 127)).bind fun v4 =>
  csel v4
    ((binK .plain .rem (t 0) (.int .i64 128)).bind fun v5 =>
     (binK .plain .add v5 (.int .i64 128)).bind fun v6 =>
     (conv (.toInt .u8) (n + 6) v6 H).bind fun p7 =>
     (bsl (n + 7) 1 1 [.int .u8 0] [(0, 1, p7.1)] p7.2).bind fun p8 =>
     (app (n + 8) 1 1 (t 3) p8.1 p8.2).bind fun p9 =>
     (binK .plain .quo (t 0) (.int .i64 128)).bind fun v10 =>
     some ⟨.normal, put (put (put (put (put (put (put (put (put (put (put (put (put t 7 (t 0)) 8 v4) 9 (t 3)) 10 (t 0)) 11 v5) 12 v6) 13 p7.1) 14 p8.1) 15 p9.1) 3 p9.1) 16 (t 0)) 17 v10) 0 v10, p9.2, n + 13⟩)
    (some ⟨(.exit 0), put (put t 7 (t 0)) 8 v4, H, n + 2⟩)
noncomputable def S10 (C : Calling) (L : Body → Body) (t : Tm) (H : Hp) (n : Nat) : Option (Value × Hp × Nat) :=
  (binK .plain .lss (t 0) (.int .i64 0)).bind fun v1 =>
  csel v1
    (some (nilS, H, n + 4))
    ((bsl (n + 3) 1 0 [.int .u8 0] [] H).bind fun p2 =>
     (L (S10L0 C L) (put (put (put (put (put t 2 nilS) 4 (t 0)) 5 v1) 6 p2.1) 3 p2.1) p2.2 (n + 5)).bind fun (o3 : Out) =>
     (conv (.toInt .u8) (o3.n + 2) (o3.t 0) o3.H).bind fun p11 =>
     (bsl (o3.n + 3) 1 1 [.int .u8 0] [(0, 1, p11.1)] p11.2).bind fun p12 =>
     (app (o3.n + 4) 1 1 (o3.t 3) p12.1 p12.2).bind fun p13 =>
     some (p13.1, p13.2, o3.n + 6))
theorem s10 (C : Calling) (L : Body → Body) (t : Tm) (H : Hp) (n : Nat) : bodyK Try.prog C L Try.f10 t H n = S10 C L t H n := by kernel_rfl
theorem c10 (args : List Value) (H : Hp) (n : Nat) : Call Try.prog 10 args H n = S10 (Call Try.prog) Loop (argsT args) H n := (Call_body Try.func10 args H n).trans (s10 ..)
/-! 11: laws.eqByteS -/
noncomputable def S11L0 (C : Calling) (L : Body → Body) : Body := fun t H n =>
  (lenV false (t 0)).bind fun v5 =>
  (binK .plain .lss (t 5) v5).bind fun v6 =>
  csel v6
    ((idxA 1 (t 0) (t 5)).bind fun v7 =>
     (ld false 1 v7 H).bind fun v8 =>
     (idxA 1 (t 1) (t 5)).bind fun v9 =>
     (ld false 1 v9 H).bind fun v10 =>
     (binK .plain .neq v8 v10).bind fun v11 =>
     csel v11
       (some ⟨.ret, put (put (put (put (put (put (put (put (put (put (put (put (put (put t 11 (t 5)) 12 (t 0)) 13 v5) 14 v6) 17 (t 0)) 18 (t 5)) 19 v7) 20 v8) 21 (t 1)) 22 (t 5)) 23 v9) 24 v10) 25 v11) 4 (.bool false), H, n + 14⟩)
       ((binK .plain .add (t 5) (.int .i64 1)).bind fun v12 =>
        some ⟨.normal, put (put (put (put (put (put (put (put (put (put (put (put (put (put (put (put t 11 (t 5)) 12 (t 0)) 13 v5) 14 v6) 17 (t 0)) 18 (t 5)) 19 v7) 20 v8) 21 (t 1)) 22 (t 5)) 23 v9) 24 v10) 25 v11) 15 (t 5)) 16 v12) 5 v12, H, n + 16⟩))
    (some ⟨(.exit 0), put (put (put (put t 11 (t 5)) 12 (t 0)) 13 v5) 14 v6, H, n + 4⟩)
noncomputable def S11 (C : Calling) (L : Body → Body) (t : Tm) (H : Hp) (n : Nat) : Option (Value × Hp × Nat) :=
  (lenV false (t 0)).bind fun v1 =>
  (lenV false (t 1)).bind fun v2 =>
  (binK .plain .neq v1 v2).bind fun v3 =>
  csel v3
    (some (.bool false, H, n + 7))
    ((L (S11L0 C L) (put (put (put (put (put (put (put t 4 (.bool false)) 6 (t 0)) 7 v1) 8 (t 1)) 9 v2) 10 v3) 5 (.int .i64 0)) H (n + 7)).bind fun (o4 : Out) =>
     let o13 := outOf 0 o4
     thenK o13
       (some (.bool true, o13.H, o13.n + 1))
       (finE o13.e
          (some (o13.t 4, o13.H, o13.n))))
theorem s11 (C : Calling) (L : Body → Body) (t : Tm) (H : Hp) (n : Nat) : bodyK Try.prog C L Try.f11 t H n = S11 C L t H n := by kernel_rfl
theorem c11 (args : List Value) (H : Hp) (n : Nat) : Call Try.prog 11 args H n = S11 (Call Try.prog) Loop (argsT args) H n := (Call_body Try.func11 args H n).trans (s11 ..)
/-! 12: laws.markByteS -/
noncomputable def S12L0 (C : Calling) (L : Body → Body) : Body := fun t H n =>
  (lenV false (t 0)).bind fun v2 =>
  (binK .plain .lss (t 5) v2).bind fun v3 =>
  csel v3
    ((conv (.toInt .u8) (n + 7) (t 1) H).bind fun p4 =>
     (idxA 1 (t 0) (t 5)).bind fun v5 =>
     (st false 1 v5 p4.1 p4.2).bind fun H6 =>
     (binK .plain .add (t 1) (.int .i64 1)).bind fun v7 =>
     (binK .plain .add (t 5) (.int .i64 1)).bind fun v8 =>
     some ⟨.normal, put (put (put (put (put (put (put (put (put (put (put (put (put (put (put t 6 (t 5)) 7 (t 0)) 8 v2) 9 v3) 12 (t 0)) 13 (t 5)) 14 (t 1)) 15 p4.1) 16 v5) 17 (t 1)) 18 v7) 1 v7) 10 (t 5)) 11 v8) 5 v8, H6, n + 16⟩)
    (some ⟨(.exit 0), put (put (put (put t 6 (t 5)) 7 (t 0)) 8 v2) 9 v3, H, n + 4⟩)
noncomputable def S12 (C : Calling) (L : Body → Body) (t : Tm) (H : Hp) (n : Nat) : Option (Value × Hp × Nat) :=
  (L (S12L0 C L) (put (put t 4 (.int .i64 0)) 5 (.int .i64 0)) H (n + 2)).bind fun (o1 : Out) =>
  some (o1.t 1, o1.H, o1.n + 2)
theorem s12 (C : Calling) (L : Body → Body) (t : Tm) (H : Hp) (n : Nat) : bodyK Try.prog C L Try.f12 t H n = S12 C L t H n := by kernel_rfl
theorem c12 (args : List Value) (H : Hp) (n : Nat) : Call Try.prog 12 args H n = S12 (Call Try.prog) Loop (argsT args) H n := (Call_body Try.func12 args H n).trans (s12 ..)
/-! 13: laws.heldByteS -/
noncomputable def S13L0 (C : Calling) (L : Body → Body) : Body := fun t H n =>
  (lenV false (t 0)).bind fun v2 =>
  (binK .plain .lss (t 5) v2).bind fun v3 =>
  csel v3
    ((idxA 1 (t 0) (t 5)).bind fun v4 =>
     (ld false 1 v4 H).bind fun v5 =>
     (conv (.toInt .u8) (n + 9) (t 1) H).bind fun p6 =>
     (binK .plain .neq v5 p6.1).bind fun v7 =>
     csel v7
       (some ⟨.ret, put (put (put (put (put (put (put (put (put (put (put (put t 6 (t 5)) 7 (t 0)) 8 v2) 9 v3) 12 (t 0)) 13 (t 5)) 14 v4) 15 v5) 16 (t 1)) 17 p6.1) 18 v7) 4 (.int .i64 (-1)), p6.2, n + 12⟩)
       ((binK .plain .add (t 1) (.int .i64 1)).bind fun v8 =>
        (binK .plain .add (t 5) (.int .i64 1)).bind fun v9 =>
        some ⟨.normal, put (put (put (put (put (put (put (put (put (put (put (put (put (put (put (put (put t 6 (t 5)) 7 (t 0)) 8 v2) 9 v3) 12 (t 0)) 13 (t 5)) 14 v4) 15 v5) 16 (t 1)) 17 p6.1) 18 v7) 19 (t 1)) 20 v8) 1 v8) 10 (t 5)) 11 v9) 5 v9, p6.2, n + 17⟩))
    (some ⟨(.exit 0), put (put (put (put t 6 (t 5)) 7 (t 0)) 8 v2) 9 v3, H, n + 4⟩)
noncomputable def S13 (C : Calling) (L : Body → Body) (t : Tm) (H : Hp) (n : Nat) : Option (Value × Hp × Nat) :=
  (L (S13L0 C L) (put (put t 4 (.int .i64 0)) 5 (.int .i64 0)) H (n + 2)).bind fun (o1 : Out) =>
  let o10 := outOf 0 o1
  thenK o10
    (some (o10.t 1, o10.H, o10.n + 2))
    (finE o10.e
       (some (o10.t 4, o10.H, o10.n)))
theorem s13 (C : Calling) (L : Body → Body) (t : Tm) (H : Hp) (n : Nat) : bodyK Try.prog C L Try.f13 t H n = S13 C L t H n := by kernel_rfl
theorem c13 (args : List Value) (H : Hp) (n : Nat) : Call Try.prog 13 args H n = S13 (Call Try.prog) Loop (argsT args) H n := (Call_body Try.func13 args H n).trans (s13 ..)
/-! 14: spec.PutText -/
noncomputable def S14 (C : Calling) (L : Body → Body) (t : Tm) (H : Hp) (n : Nat) : Option (Value × Hp × Nat) :=
  (lenV true (t 0)).bind fun v1 =>
  (C 9 [v1] H (n + 8)).bind fun q2 =>
  (conv .strToBytes (n + 5) (t 0) q2.2.1).bind fun p3 =>
  (app (n + 6) 1 1 q2.1 p3.1 p3.2).bind fun p4 =>
  some (p4.1, p4.2, q2.2.2)
theorem s14 (C : Calling) (L : Body → Body) (t : Tm) (H : Hp) (n : Nat) : bodyK Try.prog C L Try.f14 t H n = S14 C L t H n := by kernel_rfl
theorem c14 (args : List Value) (H : Hp) (n : Nat) : Call Try.prog 14 args H n = S14 (Call Try.prog) Loop (argsT args) H n := (Call_body Try.func14 args H n).trans (s14 ..)
/-! 15: impl.PutText -/
noncomputable def S15 (C : Calling) (L : Body → Body) (t : Tm) (H : Hp) (n : Nat) : Option (Value × Hp × Nat) :=
  (lenV true (t 0)).bind fun v1 =>
  (C 10 [v1] H (n + 7)).bind fun q2 =>
  (app (n + 5) 1 1 q2.1 (t 0) q2.2.1).bind fun p3 =>
  some (p3.1, p3.2, q2.2.2)
theorem s15 (C : Calling) (L : Body → Body) (t : Tm) (H : Hp) (n : Nat) : bodyK Try.prog C L Try.f15 t H n = S15 C L t H n := by kernel_rfl
theorem c15 (args : List Value) (H : Hp) (n : Nat) : Call Try.prog 15 args H n = S15 (Call Try.prog) Loop (argsT args) H n := (Call_body Try.func15 args H n).trans (s15 ..)
end Go.Proofs.Ytpkaeflmonpliaa.Ax
