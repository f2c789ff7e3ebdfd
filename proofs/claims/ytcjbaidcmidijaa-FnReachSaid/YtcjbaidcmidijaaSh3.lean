/- What the bodies of some functions of the program come to in the abstract machine. -/
import Derived.Test.YtcjbaidcmidijaaProg
import Derived.Test.YtcjbaidcmidijaaAx3
set_option linter.unusedVariables false
namespace Go.Proofs.Ytcjbaidcmidijaa.Ax
open Go
set_option maxRecDepth 100000
/-! 93: slices.Contains[[]byte,byte] -/
noncomputable def S93 (C : Calling) (L : Body → Body) (t : Tm) (H : Hp) (n : Nat) : Option (Value × Hp × Nat) :=
  (C 94 [t 0, t 1] H (n + 6)).bind fun q1 =>
  (binK .plain .geq q1.1 (.int .i64 0)).bind fun v2 =>
  some (v2, q1.2.1, q1.2.2)
theorem s93 (C : Calling) (L : Body → Body) (t : Tm) (H : Hp) (n : Nat) : bodyK Try.prog C L Try.f93 t H n = S93 C L t H n := by kernel_rfl
theorem c93 (args : List Value) (H : Hp) (n : Nat) : Call Try.prog 93 args H n = S93 (Call Try.prog) Loop (argsT args) H n := (Call_body Try.func93 args H n).trans (s93 ..)
/-! 94: slices.Index[[]byte,byte] -/
noncomputable def S94L0 (C : Calling) (L : Body → Body) : Body := fun t H n =>
  (binK .plain .lss (t 8) (t 7)).bind fun v3 =>
  csel v3
    ((idxA 1 (t 0) (t 8)).bind fun v4 =>
     (ld false 1 v4 H).bind fun v5 =>
     (binK .plain .eql (t 1) v5).bind fun v6 =>
     csel v6
       (some ⟨.ret, put (put (put (put (put (put (put (put (put (put (put t 9 v3) 10 (t 8)) 5 (t 8)) 11 (t 1)) 12 (t 0)) 13 (t 8)) 14 v4) 15 v5) 16 v6) 17 (t 8)) 4 (t 8), H, n + 11⟩)
       ((binK .plain .add (t 8) (.int .i64 1)).bind fun v7 =>
        some ⟨.normal, put (put (put (put (put (put (put (put (put (put (put t 9 v3) 10 (t 8)) 5 (t 8)) 11 (t 1)) 12 (t 0)) 13 (t 8)) 14 v4) 15 v5) 16 v6) 18 v7) 8 v7, H, n + 11⟩))
    (some ⟨(.exit 0), put t 9 v3, H, n + 1⟩)
noncomputable def S94 (C : Calling) (L : Body → Body) (t : Tm) (H : Hp) (n : Nat) : Option (Value × Hp × Nat) :=
  (lenV false (t 0)).bind fun v1 =>
  (L (S94L0 C L) (put (put (put (put t 4 (.int .i64 0)) 6 (t 0)) 7 v1) 8 (.int .i64 0)) H (n + 4)).bind fun (o2 : Out) =>
  let o8 := outOf 0 o2
  thenK o8
    (some (.int .i64 (-1), o8.H, o8.n + 1))
    (finE o8.e
       (some (o8.t 4, o8.H, o8.n)))
theorem s94 (C : Calling) (L : Body → Body) (t : Tm) (H : Hp) (n : Nat) : bodyK Try.prog C L Try.f94 t H n = S94 C L t H n := by kernel_rfl
theorem c94 (args : List Value) (H : Hp) (n : Nat) : Call Try.prog 94 args H n = S94 (Call Try.prog) Loop (argsT args) H n := (Call_body Try.func94 args H n).trans (s94 ..)
end Go.Proofs.Ytcjbaidcmidijaa.Ax
