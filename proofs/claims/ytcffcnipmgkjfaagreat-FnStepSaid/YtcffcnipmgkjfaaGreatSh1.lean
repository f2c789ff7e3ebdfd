/- What the bodies of some functions of the program come to in the abstract machine. -/
import Derived.Test.YtcffcnipmgkjfaaGreatProg
import Derived.Test.YtcffcnipmgkjfaaGreatM0
set_option linter.unusedVariables false
set_option maxHeartbeats 8000000
namespace Go.Proofs.YtcffcnipmgkjfaaGreat.Ax
open Go
set_option maxRecDepth 100000
noncomputable def S141 (C:Zb)(L:Zc->Zc)(t:Tm)(H:Hp)(n:Nat):Option (Value × Hp × Nat) :=
 (C 43 [t 0,.int .i64 1,.int .i64 19] H (n+4)).bind fun q1=>(un .not q1.1).bind fun v2=>csel v2
 (some (.int .i64 (-1),q1.2.1,q1.2.2+1))
 ((Xx (q1.2.2) 1 19 [.int .i64 0] [(0,1,.int .i64 2),(1,1,.int .i64 2),(2,1,.int .i64 2),(3,1,.int .i64 2),(4,1,.int .i64 2),(5,1,.int .i64 2),(6,1,.int .i64 1),(7,1,.int .i64 1),(8,1,.int .i64 1),(9,1,.int .i64 1),(10,1,.int .i64 2),(11,1,.int .i64 1),(12,1,.int .i64 1),(13,1,.int .i64 0),(14,1,.int .i64 2),(15,1,.int .i64 0),(16,1,.int .i64 1),(17,1,.int .i64 1),(18,1,.int .i64 1)] q1.2.1).bind fun p3=>(Zd .plain .sub (t 0) (.int .i64 1)).bind fun v4=>(Zo 1 p3.1 v4).bind fun v5=>(ld false 1 v5 p3.2).bind fun v6=>some (v6,p3.2,q1.2.2+6))
theorem s141 (C:Zb)(L:Zc->Zc)(t:Tm)(H:Hp)(n:Nat):Zq Tryz.prog C L Tryz.f141 t H n=S141 C L t H n:=by kernel_rfl
theorem c141 (args:List Value)(H:Hp)(n:Nat):Call Tryz.prog 141 args H n=S141 (Call Tryz.prog) Zm (Zp args) H n:=(Zg Tryz.func141 args H n).trans (s141 ..)
noncomputable def S142L0 (C:Zb)(L:Zc->Zc):Zc:=fun t H n=>(Zd .plain .lss (t 13) (t 12)).bind fun v3=>csel v3
 ((Zo 1 (t 11) (t 13)).bind fun v4=>(ld false 1 v4 H).bind fun v5=>(Zd .plain .leq (t 1) (.int .i64 5)).bind fun v6=>let t8:Tm:=put (put (put (put (put (put (put t 14 v3) 15 v4) 16 v5) 9 v5) 17 (t 1)) 18 v6) 19 v6
 (gsel v6 true
 ((Zh (t8 0)).bind fun v9=>(Za 0 v9).bind fun v10=>(ld false 1 v10 H).bind fun v11=>(Zo 5 v11 v5).bind fun v12=>(Za 0 v12).bind fun v13=>(ld false 1 v13 H).bind fun v14=>(Zd .plain .neq v14 (.int .i64 3)).bind fun v15=>some (put (put (put (put (put (put (put (put (put t8 20 (t8 0)) 21 v9) 22 v10) 23 v11) 24 v5) 25 v12) 26 v13) 27 v14) 28 v15,H,n+36))
 (some (put (put (put (put (put (put (put (put (put t8 20 (.tuple #[])) 21 (.tuple #[])) 22 (.tuple #[])) 23 (.tuple #[])) 24 (.tuple #[])) 25 (.tuple #[])) 26 (.tuple #[])) 27 (.tuple #[])) 28 (.tuple #[]),H,n+36))
 ).bind fun(q7:R3)=>(Zl (q7.1 19) (q7.1 28) (.bool false)).bind fun v16=>let t18:Tm:=put (put q7.1 29 v16) 30 v16
 (gsel v16 false
 ((Zd .plain .eql (t18 1) (.int .i64 7)).bind fun v19=>some (put (put (put t18 31 (t18 1)) 32 v19) 33 v19,q7.2.1,q7.2.2))
 (some (put (put (put t18 31 (.tuple #[])) 32 (.tuple #[])) 33 (.tuple #[]),q7.2.1,q7.2.2))
 ).bind fun(q17:R3)=>let t21:Tm:=q17.1
 (gsel (q17.1 33) false
 ((Zd .plain .eql (t21 1) (.int .i64 8)).bind fun v22=>some (put (put t21 34 (t21 1)) 35 v22,q17.2.1,q17.2.2))
 (some (put (put t21 34 (.tuple #[])) 35 (.tuple #[]),q17.2.1,q17.2.2))
 ).bind fun(q20:R3)=>let t24:Tm:=q20.1
 (gsel (q20.1 30) false
 ((Zl (t24 33) (.bool true) (t24 35)).bind fun v25=>some (put (put t24 36 v25) 37 v25,q20.2.1,q20.2.2))
 (some (put (put t24 36 (.tuple #[])) 37 (.tuple #[]),q20.2.1,q20.2.2))
 ).bind fun(q23:R3)=>let t27:Tm:=q23.1
 (gsel (q23.1 37) true
 ((Zh (t27 0)).bind fun v28=>(Za 0 v28).bind fun v29=>(ld false 1 v29 q23.2.1).bind fun v30=>(Zo 5 v30 (t27 9)).bind fun v31=>(Za 0 v31).bind fun v32=>(ld false 1 v32 q23.2.1).bind fun v33=>(Zd .plain .neq v33 (.int .i64 5)).bind fun v34=>some (put (put (put (put (put (put (put (put (put t27 38 (t27 0)) 39 v28) 40 v29) 41 v30) 42 (t27 9)) 43 v31) 44 v32) 45 v33) 46 v34,q23.2.1,q23.2.2))
 (some (put (put (put (put (put (put (put (put (put t27 38 (.tuple #[])) 39 (.tuple #[])) 40 (.tuple #[])) 41 (.tuple #[])) 42 (.tuple #[])) 43 (.tuple #[])) 44 (.tuple #[])) 45 (.tuple #[])) 46 (.tuple #[]),q23.2.1,q23.2.2))
 ).bind fun(q26:R3)=>let t36:Tm:=q26.1
 (gsel (q26.1 30) false
 ((Zl (t36 37) (t36 46) (.bool false)).bind fun v37=>some (put t36 47 v37,q26.2.1,q26.2.2))
 (some (put t36 47 (.tuple #[]),q26.2.1,q26.2.2))
 ).bind fun(q35:R3)=>(Zl (q35.1 30) (.bool true) (q35.1 47)).bind fun v38=>csel v38
 (some ⟨.ret,put (put (put q35.1 48 v38) 6 (.int .i64 (-1))) 7 (.int .i64 3),q35.2.1,q35.2.2+2⟩)
 ((Zd .plain .add (q35.1 13) (.int .i64 1)).bind fun v39=>some ⟨.normal,put (put (put q35.1 48 v38) 49 v39) 13 v39,q35.2.1,q35.2.2+2⟩))
 (some ⟨(.exit 0),put t 14 v3,H,n+1⟩)
noncomputable def S142 (C:Zb)(L:Zc->Zc)(t:Tm)(H:Hp)(n:Nat):Option (Value × Hp × Nat) :=
 (Zx false (t 2)).bind fun v1=>(L (S142L0 C L) (put (put (put (put (put t 6 (.int .i64 0)) 7 (.int .i64 0)) 11 (t 2)) 12 v1) 13 (.int .i64 0)) H (n+5)).bind fun(o2:Out)=>let o40:=outOf 0 o2
 Xe o40
 ((Zd .plain .eql (o40.t 1) (.int .i64 7)).bind fun v41=>csel v41
 ((Zh (o40.t 0)).bind fun v42=>(Za 0 v42).bind fun v43=>(ld false 1 v43 o40.H).bind fun v44=>(Zo 1 (o40.t 2) (.int .i64 0)).bind fun v45=>(ld false 1 v45 o40.H).bind fun v46=>(Zo 5 v44 v46).bind fun v47=>(Za 3 v47).bind fun v48=>(ld false 1 v48 o40.H).bind fun v49=>Yr ([v49,.int .i64 0].all notTup) <|some (.tuple ⟨[v49,.int .i64 0]⟩,o40.H,o40.n+15))
 ((Zd .plain .eql (o40.t 1) (.int .i64 8)).bind fun v50=>csel v50
 ((Zh (o40.t 0)).bind fun v51=>(Za 0 v51).bind fun v52=>(ld false 1 v52 o40.H).bind fun v53=>(Zo 1 (o40.t 2) (.int .i64 0)).bind fun v54=>(ld false 1 v54 o40.H).bind fun v55=>(Zo 5 v53 v55).bind fun v56=>(Za 4 v56).bind fun v57=>(ld false 1 v57 o40.H).bind fun v58=>Yr ([v58,.int .i64 0].all notTup) <|some (.tuple ⟨[v58,.int .i64 0]⟩,o40.H,o40.n+17))
 ((Zh (o40.t 0)).bind fun v59=>(ld true 1 v59 o40.H).bind fun v60=>(C 154 [v60,o40.t 1,o40.t 2] o40.H (o40.n+13)).bind fun q61=>let H62:=q61.2.1.set (o40.n+11) (some (.row [.int .i64 0,.int .i64 0,.string ⟨#[]⟩,.int .i64 0,.int .i64 0] 0 true))
 (st true 5 (ptr (o40.n+11) 0) q61.1 H62).bind fun H63=>(Za 1 (ptr (o40.n+11) 0)).bind fun v64=>(ld false 1 v64 H63).bind fun v65=>(C 43 [v65,.int .i64 (-1000000000),.int .i64 1000000000] H63 (q61.2.2+4)).bind fun q66=>(un .not q66.1).bind fun v67=>csel v67
 (Yr ([.int .i64 (-1),.int .i64 4].all notTup) <|some (.tuple ⟨[.int .i64 (-1),.int .i64 4]⟩,q66.2.1,q66.2.2+2))
 ((ld true 5 (ptr (o40.n+11) 0) q66.2.1).bind fun v68=>(C 101 [o40.t 0,v68] q66.2.1 (q66.2.2+5)).bind fun q69=>Yr ([q69.1,.int .i64 0].all notTup) <|some (.tuple ⟨[q69.1,.int .i64 0]⟩,q69.2.1,q69.2.2)))))
 (Vs o40.e
 (Yr ([o40.t 6,o40.t 7].all notTup) <|some (.tuple ⟨[o40.t 6,o40.t 7]⟩,o40.H,o40.n)))
theorem s142 (C:Zb)(L:Zc->Zc)(t:Tm)(H:Hp)(n:Nat):Zq Tryz.prog C L Tryz.f142 t H n=S142 C L t H n:=by kernel_rfl
theorem c142 (args:List Value)(H:Hp)(n:Nat):Call Tryz.prog 142 args H n=S142 (Call Tryz.prog) Zm (Zp args) H n:=(Zg Tryz.func142 args H n).trans (s142 ..)
noncomputable def S143L1 (C:Zb)(L:Zc->Zc):Zc:=fun t H n=>(Zd .plain .geq (t 8) (.int .i64 0)).bind fun v20=>csel v20
 (let t22:Tm:=put (put t 28 (t 8)) 29 v20
 Option.bind
 ((Zo 1 (t22 5) (t22 8)).bind fun v23=>(ld false 1 v23 H).bind fun v24=>(un .not v24).bind fun v25=>csel v25
 (some ⟨(.exit 3),put (put (put (put (put t22 32 (t22 5)) 33 (t22 8)) 34 v23) 35 v24) 36 v25,H,n+7⟩)
 ((Za 0 (t22 2)).bind fun v26=>(ld false 1 v26 H).bind fun v27=>(Zo 5 v27 (t22 8)).bind fun v28=>(ld true 5 v28 H).bind fun v29=>let H30:=H.set (n+12) (some (.row [.int .i64 0,.int .i64 0,.string ⟨#[]⟩,.int .i64 0,.int .i64 0] 0 true))
 (st true 5 (ptr (n+12) 0) v29 H30).bind fun H31=>(Za 0 (ptr (n+12) 0)).bind fun v32=>(ld false 1 v32 H31).bind fun v33=>(Zd .plain .eql v33 (.int .i64 5)).bind fun v34=>let t36:Tm:=put (put (put (put (put (put (put (put (put (put (put (put (put (put (put t22 32 (t22 5)) 33 (t22 8)) 34 v23) 35 v24) 36 v25) 37 v26) 38 v27) 39 (t22 8)) 40 v28) 41 v29) 9 (ptr (n+12) 0)) 42 v32) 43 v33) 45 v34) 44 v34
 (csel v34
 ((Za 3 (ptr (n+12) 0)).bind fun v37=>(ld false 1 v37 H31).bind fun v38=>(Zo 1 (t36 5) v38).bind fun v39=>(st false 1 v39 (.bool true) H31).bind fun H40=>(Za 4 (ptr (n+12) 0)).bind fun v41=>(ld false 1 v41 H40).bind fun v42=>(Zo 1 (t36 5) v42).bind fun v43=>(st false 1 v43 (.bool true) H40).bind fun H44=>some ⟨.normal,put (put (put (put (put (put (put (put t36 46 (t36 5)) 47 v37) 48 v38) 49 v39) 50 (t36 5)) 51 v41) 52 v42) 53 v43,H44,n+28⟩)
 ((Zd .plain .eql v33 (.int .i64 6)).bind fun v45=>let t47:Tm:=put (put t36 55 v45) 54 v45
 (csel v45
 (some ⟨.normal,t47,H31,n+20⟩)
 ((Zd .plain .eql v33 (.int .i64 7)).bind fun v48=>some ⟨.normal,put (put t47 56 v48) 54 v48,H31,n+22⟩)
 ).bind fun(o46:Out)=>(csel (o46.t 54)
 ((Za 3 (o46.t 9)).bind fun v51=>(ld false 1 v51 o46.H).bind fun v52=>(Zo 1 (o46.t 5) v52).bind fun v53=>(st false 1 v53 (.bool true) o46.H).bind fun H54=>some ⟨.normal,put (put (put (put o46.t 57 (o46.t 5)) 58 v51) 59 v52) 60 v53,H54,o46.n+5⟩)
 (some ⟨.normal,o46.t,o46.H,o46.n⟩)
 ).bind fun(o49:Out)=>some ⟨.normal,o49.t,o49.H,o49.n⟩)
 ).bind fun(o35:Out)=>some ⟨.normal,o35.t,o35.H,o35.n⟩))
 fun(o21:Out)=>(Zd .plain .sub (o21.t 8) (.int .i64 1)).bind fun v55=>some ⟨.normal,put (put (put o21.t 30 (o21.t 8)) 31 v55) 8 v55,o21.H,o21.n+3⟩)
 (some ⟨(.exit 2),put (put t 28 (t 8)) 29 v20,H,n+2⟩)
noncomputable def S143L0 (C:Zb)(L:Zc->Zc):Zc:=fun t H n=>(Zd .plain .lss (t 16) (t 15)).bind fun v9=>csel v9
 ((Zo 1 (t 14) (t 16)).bind fun v10=>(ld false 1 v10 H).bind fun v11=>(Zo 1 (t 5) v11).bind fun v12=>(st false 1 v12 (.bool true) H).bind fun H13=>(Zd .plain .add (t 16) (.int .i64 1)).bind fun v14=>some ⟨.normal,put (put (put (put (put (put (put (put (put t 17 v9) 18 v10) 19 v11) 7 v11) 20 (t 5)) 21 v11) 22 v12) 23 v14) 16 v14,H13,n+10⟩)
 (some ⟨(.exit 0),put t 17 v9,H,n+1⟩)
noncomputable def S143 (C:Zb)(L:Zc->Zc)(t:Tm)(H:Hp)(n:Nat):Option (Value × Hp × Nat) :=
 (Zs (t 0)).bind fun c2=>let H1:=H.set (n) (some (.row c2 0 true))
 (Za 0 (ptr (n) 0)).bind fun v3=>(ld false 1 v3 H1).bind fun v4=>(Zx false v4).bind fun v5=>(mks (n+5) 1 1 [.bool false] v5 v5 H1).bind fun p6=>(Zx false (t 1)).bind fun v7=>(L (S143L0 C L) (put (put (put (put (put (put (put (put (put (put t 2 (ptr (n) 0)) 4 nilS) 10 v3) 11 v4) 12 v5) 13 p6.1) 5 p6.1) 14 (t 1)) 15 v7) 16 (.int .i64 0)) p6.2 (n+10)).bind fun(o8:Out)=>(Za 0 (o8.t 2)).bind fun v15=>(ld false 1 v15 o8.H).bind fun v16=>(Zx false v16).bind fun v17=>(Zd .plain .sub v17 (.int .i64 1)).bind fun v18=>(L (S143L1 C L) (put (put (put (put (put o8.t 24 v15) 25 v16) 26 v17) 27 v18) 8 v18) o8.H (o8.n+5)).bind fun(o19:Out)=>some (o19.t 5,o19.H,o19.n+2)
theorem s143 (C:Zb)(L:Zc->Zc)(t:Tm)(H:Hp)(n:Nat):Zq Tryz.prog C L Tryz.f143 t H n=S143 C L t H n:=by kernel_rfl
theorem c143 (args:List Value)(H:Hp)(n:Nat):Call Tryz.prog 143 args H n=S143 (Call Tryz.prog) Zm (Zp args) H n:=(Zg Tryz.func143 args H n).trans (s143 ..)
noncomputable def S144L0 (C:Zb)(L:Zc->Zc):Zc:=fun t H n=>(Zd .plain .lss (t 8) (t 7)).bind fun v3=>csel v3
 ((Zo 1 (t 0) (t 8)).bind fun v4=>(ld false 1 v4 H).bind fun v5=>(Zd .plain .eql (t 1) v5).bind fun v6=>csel v6
 (some ⟨.ret,put (put (put (put (put (put (put (put (put (put (put t 9 v3) 10 (t 8)) 5 (t 8)) 11 (t 1)) 12 (t 0)) 13 (t 8)) 14 v4) 15 v5) 16 v6) 17 (t 8)) 4 (t 8),H,n+11⟩)
 ((Zd .plain .add (t 8) (.int .i64 1)).bind fun v7=>some ⟨.normal,put (put (put (put (put (put (put (put (put (put (put t 9 v3) 10 (t 8)) 5 (t 8)) 11 (t 1)) 12 (t 0)) 13 (t 8)) 14 v4) 15 v5) 16 v6) 18 v7) 8 v7,H,n+11⟩))
 (some ⟨(.exit 0),put t 9 v3,H,n+1⟩)
noncomputable def S144 (C:Zb)(L:Zc->Zc)(t:Tm)(H:Hp)(n:Nat):Option (Value × Hp × Nat) :=
 (Zx false (t 0)).bind fun v1=>(L (S144L0 C L) (put (put (put (put t 4 (.int .i64 0)) 6 (t 0)) 7 v1) 8 (.int .i64 0)) H (n+4)).bind fun(o2:Out)=>let o8:=outOf 0 o2
 Xe o8
 (some (.int .i64 (-1),o8.H,o8.n+1))
 (Vs o8.e
 (some (o8.t 4,o8.H,o8.n)))
theorem s144 (C:Zb)(L:Zc->Zc)(t:Tm)(H:Hp)(n:Nat):Zq Tryz.prog C L Tryz.f144 t H n=S144 C L t H n:=by kernel_rfl
theorem c144 (args:List Value)(H:Hp)(n:Nat):Call Tryz.prog 144 args H n=S144 (Call Tryz.prog) Zm (Zp args) H n:=(Zg Tryz.func144 args H n).trans (s144 ..)
noncomputable def S145 (C:Zb)(L:Zc->Zc)(t:Tm)(H:Hp)(n:Nat):Option (Value × Hp × Nat) :=
 (Xx (n+1) 1 19 [.string ⟨#[]⟩] [(0,1,.string ⟨#[43]⟩),(1,1,.string ⟨#[45]⟩),(2,1,.string ⟨#[42]⟩),(3,1,.string ⟨#[60]⟩),(4,1,.string ⟨#[61]⟩),(5,1,.string ⟨#[99,111,110,115]⟩),(6,1,.string ⟨#[99,97,114]⟩),(7,1,.string ⟨#[99,100,114]⟩),(8,1,.string ⟨#[110,117,108,108,63]⟩),(9,1,.string ⟨#[112,97,105,114,63]⟩),(10,1,.string ⟨#[101,113,63]⟩),(11,1,.string ⟨#[110,111,116]⟩),(12,1,.string ⟨#[112,114,105,110,116]⟩),(13,1,.string ⟨#[115,101,108,102]⟩),(14,1,.string ⟨#[115,101,110,100]⟩),(15,1,.string ⟨#[114,101,99,118]⟩),(16,1,.string ⟨#[115,112,97,119,110]⟩),(17,1,.string ⟨#[99,97,108,108,99,99]⟩),(18,1,.string ⟨#[103,111]⟩)] H).bind fun p1=>some (p1.1,p1.2,n+3)
theorem s145 (C:Zb)(L:Zc->Zc)(t:Tm)(H:Hp)(n:Nat):Zq Tryz.prog C L Tryz.f145 t H n=S145 C L t H n:=by kernel_rfl
theorem c145 (args:List Value)(H:Hp)(n:Nat):Call Tryz.prog 145 args H n=S145 (Call Tryz.prog) Zm (Zp args) H n:=(Zg Tryz.func145 args H n).trans (s145 ..)
noncomputable def S146 (C:Zb)(L:Zc->Zc)(t:Tm)(H:Hp)(n:Nat):Option (Value × Hp × Nat) :=
 (C 116 [t 0] H (n+12)).bind fun q1=>let t3:Tm:=put (put (put (put t 2 (.bool false)) 3 (t 0)) 4 q1.1) 5 q1.1
 (gsel q1.1 false
 ((C 155 [t3 0] q1.2.1 (q1.2.2)).bind fun q4=>some (put (put t3 6 (t3 0)) 7 q4.1,q4.2.1,q4.2.2))
 (some (put (put t3 6 (.tuple #[])) 7 (.tuple #[]),q1.2.1,q1.2.2))
 ).bind fun(q2:R3)=>(Zl (q2.1 5) (.bool true) (q2.1 7)).bind fun v5=>let t7:Tm:=put (put q2.1 8 v5) 9 v5
 (gsel v5 false
 ((Zd .plain .eql (t7 0) (.int .u8 35)).bind fun v8=>some (put (put t7 10 (t7 0)) 11 v8,q2.2.1,q2.2.2))
 (some (put (put t7 10 (.tuple #[])) 11 (.tuple #[]),q2.2.1,q2.2.2))
 ).bind fun(q6:R3)=>(Zl (q6.1 9) (.bool true) (q6.1 11)).bind fun v9=>some (v9,q6.2.1,q6.2.2)
theorem s146 (C:Zb)(L:Zc->Zc)(t:Tm)(H:Hp)(n:Nat):Zq Tryz.prog C L Tryz.f146 t H n=S146 C L t H n:=by kernel_rfl
theorem c146 (args:List Value)(H:Hp)(n:Nat):Call Tryz.prog 146 args H n=S146 (Call Tryz.prog) Zm (Zp args) H n:=(Zg Tryz.func146 args H n).trans (s146 ..)
noncomputable def S147 (C:Zb)(L:Zc->Zc)(t:Tm)(H:Hp)(n:Nat):Option (Value × Hp × Nat) :=
 let H1:=H.set (n) (some (.row [.int .i64 0,.int .i64 0,.string ⟨#[]⟩,.int .i64 0,.int .i64 0] 0 true))
 (Zd .plain .eql (t 0) (.string ⟨#[35,116]⟩)).bind fun v2=>csel v2
 ((Xf [.int .i64 0,.int .i64 0,.string ⟨#[]⟩,.int .i64 0,.int .i64 0] [(0,1,.int .i64 2),(1,1,.int .i64 1)]).bind fun v3=>(st true 5 (ptr (n) 0) v3 H1).bind fun H4=>(ld true 5 (ptr (n) 0) H4).bind fun v5=>Yr ([v5,.bool true].all notTup) <|some (.tuple ⟨[v5,.bool true]⟩,H4,n+8))
 ((Zd .plain .eql (t 0) (.string ⟨#[35,102]⟩)).bind fun v6=>csel v6
 ((Xf [.int .i64 0,.int .i64 0,.string ⟨#[]⟩,.int .i64 0,.int .i64 0] [(0,1,.int .i64 2)]).bind fun v7=>(st true 5 (ptr (n) 0) v7 H1).bind fun H8=>(ld true 5 (ptr (n) 0) H8).bind fun v9=>Yr ([v9,.bool true].all notTup) <|some (.tuple ⟨[v9,.bool true]⟩,H8,n+10))
 ((C 156 [t 0] H1 (n+14)).bind fun q10=>(ext 0 q10.1).bind fun v11=>(ext 1 q10.1).bind fun v12=>csel v12
 ((Xf [.int .i64 0,.int .i64 0,.string ⟨#[]⟩,.int .i64 0,.int .i64 0] [(0,1,.int .i64 3),(1,1,v11)]).bind fun v13=>(st true 5 (ptr (n) 0) v13 q10.2.1).bind fun H14=>(ld true 5 (ptr (n) 0) H14).bind fun v15=>Yr ([v15,.bool true].all notTup) <|some (.tuple ⟨[v15,.bool true]⟩,H14,q10.2.2+5))
 ((Xf [.int .i64 0,.int .i64 0,.string ⟨#[]⟩,.int .i64 0,.int .i64 0] [(0,1,.int .i64 4),(2,1,t 0)]).bind fun v16=>(C 79 [t 0] q10.2.1 (q10.2.2+7)).bind fun q17=>(st true 5 (ptr (n) 0) v16 q17.2.1).bind fun H18=>(ld true 5 (ptr (n) 0) H18).bind fun v19=>Yr ([v19,q17.1].all notTup) <|some (.tuple ⟨[v19,q17.1]⟩,H18,q17.2.2))))
theorem s147 (C:Zb)(L:Zc->Zc)(t:Tm)(H:Hp)(n:Nat):Zq Tryz.prog C L Tryz.f147 t H n=S147 C L t H n:=by kernel_rfl
theorem c147 (args:List Value)(H:Hp)(n:Nat):Call Tryz.prog 147 args H n=S147 (Call Tryz.prog) Zm (Zp args) H n:=(Zg Tryz.func147 args H n).trans (s147 ..)
noncomputable def S148 (C:Zb)(L:Zc->Zc)(t:Tm)(H:Hp)(n:Nat):Option (Value × Hp × Nat) :=
 (Xx (n+1) 1 18 [.string ⟨#[]⟩] [(0,1,.string ⟨#[40,100,101,102,105,110,101,32,40,102,32,110,41,32,40,105,102,32,40,60,32,110,32,50,41,32,110,32,40,43,32,40,102,32,40,45,32,110,32,49,41,41,32,40,102,32,40,45,32,110,32,50,41,41,41,41,41,32,40,102,32,54,41]⟩),(1,1,.string ⟨#[40,100,101,102,105,110,101,32,40,117,112,32,110,41,32,40,105,102,32,40,60,32,110,32,51,41,32,40,100,111,32,40,112,114,105,110,116,32,110,41,32,40,117,112,32,40,43,32,110,32,49,41,41,41,32,110,41,41,32,40,117,112,32,48,41]⟩),(2,1,.string ⟨#[40,108,101,116,32,120,32,53,32,40,108,101,116,32,102,32,40,102,110,32,40,121,41,32,40,43,32,120,32,121,41,41,32,40,112,114,105,110,116,32,40,102,32,52,41,41,41,41]⟩),(3,1,.string ⟨#[40,112,114,105,110,116,32,40,99,97,108,108,99,99,32,40,102,110,32,40,107,41,32,40,100,111,32,40,107,32,55,41,32,56,41,41,41,41]⟩),(4,1,.string ⟨#[40,100,101,102,105,110,101,32,40,109,97,112,32,102,32,108,41,32,40,105,102,32,40,110,117,108,108,63,32,108,41,32,40,41,32,40,99,111,110,115,32,40,102,32,40,99,97,114,32,108,41,41,32,40,109,97,112,32,102,32,40,99,100,114,32,108,41,41,41,41,41,32,40,112,114,105,110,116,32,40,109,97,112,32,40,102,110,32,40,120,41,32,40,42,32,120,32,120,41,41,32,40,113,117,111,116,101,32,40,49,32,50,32,51,41,41,41,41]⟩),(5,1,.string ⟨#[40,100,111,32,40,115,112,97,119,110,32,40,102,110,32,40,41,32,40,100,111,32,40,112,114,105,110,116,32,49,41,32,40,112,114,105,110,116,32,50,41,41,41,41,32,40,112,114,105,110,116,32,51,41,41]⟩),(6,1,.string ⟨#[40,108,101,116,32,112,32,40,115,112,97,119,110,32,40,102,110,32,40,41,32,40,112,114,105,110,116,32,40,114,101,99,118,41,41,41,41,32,40,100,111,32,40,115,101,110,100,32,112,32,40,113,117,111,116,101,32,40,97,32,98,41,41,41,32,48,41,41]⟩),(7,1,.string ⟨#[40,108,101,116,32,112,32,40,115,112,97,119,110,32,40,102,110,32,40,41,32,40,108,101,116,32,102,32,40,114,101,99,118,41,32,40,112,114,105,110,116,32,40,102,32,53,41,41,41,41,41,32,40,108,101,116,32,122,32,57,32,40,115,101,110,100,32,112,32,40,102,110,32,40,120,41,32,40,43,32,120,32,122,41,41,41,41,41]⟩),(8,1,.string ⟨#[40,100,111,32,40,112,114,105,110,116,32,49,41,32,40,103,111,32,49,41,32,40,112,114,105,110,116,32,50,41,32,40,103,111,32,48,41,32,40,112,114,105,110,116,32,51,41,41]⟩),(9,1,.string ⟨#[40,108,101,116,32,109,101,32,40,115,101,108,102,41,32,40,100,111,32,40,115,112,97,119,110,32,40,102,110,32,40,41,32,40,100,111,32,40,103,111,32,49,41,32,40,115,101,110,100,32,109,101,32,52,50,41,41,41,41,32,40,112,114,105,110,116,32,40,114,101,99,118,41,41,41,41]⟩),(10,1,.string ⟨#[40,100,101,102,105,110,101,32,40,108,111,111,112,32,110,41,32,40,105,102,32,40,61,32,110,32,48,41,32,40,112,114,105,110,116,32,40,113,117,111,116,101,32,101,110,100,41,41,32,40,108,111,111,112,32,40,45,32,110,32,49,41,41,41,41,32,40,108,111,111,112,32,57,41]⟩),(11,1,.string ⟨#[40,112,114,105,110,116,32,40,99,97,114,32,40,113,117,111,116,101,32,40,41,41,41,41]⟩),(12,1,.string ⟨#[40,112,114,105,110,116,32,40,102,32,49,41,41]⟩),(13,1,.string ⟨#[40,43,32,49,32,35,116,41]⟩),(14,1,.string ⟨#[40,112,114,105,110,116,32,40,99,111,110,115,32,49,32,40,99,111,110,115,32,50,32,40,41,41,41,41]⟩),(15,1,.string ⟨#[40,100,101,102,105,110,101,32,40,112,105,110,103,32,112,32,110,41,32,40,105,102,32,40,60,32,110,32,49,41,32,48,32,40,100,111,32,40,115,101,110,100,32,112,32,110,41,32,40,112,114,105,110,116,32,40,114,101,99,118,41,41,32,40,112,105,110,103,32,112,32,40,45,32,110,32,49,41,41,41,41,41,32,40,108,101,116,32,109,101,32,40,115,101,108,102,41,32,40,112,105,110,103,32,40,115,112,97,119,110,32,40,102,110,32,40,41,32,40,100,111,32,40,103,111,32,49,41,32,40,115,101,110,100,32,109,101,32,40,43,32,49,48,32,40,114,101,99,118,41,41,41,32,40,115,101,110,100,32,109,101,32,40,43,32,49,48,32,40,114,101,99,118,41,41,41,41,41,41,32,50,41,41]⟩),(16,1,.string ⟨#[40,108,101,116,32,107,32,40,99,97,108,108,99,99,32,40,102,110,32,40,99,41,32,99,41,41,32,40,105,102,32,40,112,97,105,114,63,32,107,41,32,40,112,114,105,110,116,32,40,99,97,114,32,107,41,41,32,40,107,32,40,113,117,111,116,101,32,40,53,41,41,41,41,41]⟩),(17,1,.string ⟨#[40,108,101,116,32,112,32,40,115,112,97,119,110,32,40,102,110,32,40,41,32,40,100,111,32,40,103,111,32,49,41,32,40,108,101,116,32,107,32,40,114,101,99,118,41,32,40,107,32,56,41,41,41,41,41,32,40,112,114,105,110,116,32,40,99,97,108,108,99,99,32,40,102,110,32,40,107,41,32,40,100,111,32,40,115,101,110,100,32,112,32,107,41,32,51,41,41,41,41,41]⟩)] H).bind fun p1=>some (p1.1,p1.2,n+3)
theorem s148 (C:Zb)(L:Zc->Zc)(t:Tm)(H:Hp)(n:Nat):Zq Tryz.prog C L Tryz.f148 t H n=S148 C L t H n:=by kernel_rfl
theorem c148 (args:List Value)(H:Hp)(n:Nat):Call Tryz.prog 148 args H n=S148 (Call Tryz.prog) Zm (Zp args) H n:=(Zg Tryz.func148 args H n).trans (s148 ..)
noncomputable def S149 (C:Zb)(L:Zc->Zc)(t:Tm)(H:Hp)(n:Nat):Option (Value × Hp × Nat) :=
 (Zd .plain .leq (t 1) (.int .i64 0)).bind fun v1=>csel v1
 ((Xx (n+4) 1 9 [.string ⟨#[]⟩] [(0,1,.string ⟨#[49]⟩),(1,1,.string ⟨#[120]⟩),(2,1,.string ⟨#[121]⟩),(3,1,.string ⟨#[45,50]⟩),(4,1,.string ⟨#[35,116]⟩),(5,1,.string ⟨#[40,41]⟩),(6,1,.string ⟨#[102]⟩),(7,1,.string ⟨#[40,113,117,111,116,101,32,97,41]⟩),(8,1,.string ⟨#[48]⟩)] H).bind fun p2=>(C 110 [t 0,p2.1] p2.2 (n+7)).bind fun q3=>some (q3.1,q3.2.1,q3.2.2))
 ((Zd .plain .sub (t 1) (.int .i64 1)).bind fun v4=>(C 149 [t 0,v4] H (n+8)).bind fun q5=>(Zd .plain .sub (t 1) (.int .i64 1)).bind fun v6=>(C 149 [t 0,v6] q5.2.1 (q5.2.2+5)).bind fun q7=>(C 69 [t 0,.int .i64 9] q7.2.1 (q7.2.2+2)).bind fun q8=>(Zd .plain .eql q8.1 (.int .i64 0)).bind fun v9=>csel v9
 ((Zd .plain .add (.string ⟨#[40,105,102,32]⟩) q5.1).bind fun v10=>(Zd .plain .add v10 (.string ⟨#[32]⟩)).bind fun v11=>(Zd .plain .add v11 q7.1).bind fun v12=>(Zd .plain .add v12 (.string ⟨#[32]⟩)).bind fun v13=>(Zd .plain .sub (t 1) (.int .i64 2)).bind fun v14=>(C 149 [t 0,v14] q8.2.1 (q8.2.2+15)).bind fun q15=>(Zd .plain .add v13 q15.1).bind fun v16=>(Zd .plain .add v16 (.string ⟨#[41]⟩)).bind fun v17=>some (v17,q15.2.1,q15.2.2))
 ((Zd .plain .eql q8.1 (.int .i64 1)).bind fun v18=>csel v18
 ((Zd .plain .add (.string ⟨#[40,102,110,32,40,120,32,121,41,32]⟩) q5.1).bind fun v19=>(Zd .plain .add v19 (.string ⟨#[41]⟩)).bind fun v20=>some (v20,q8.2.1,q8.2.2+8))
 ((Zd .plain .eql q8.1 (.int .i64 2)).bind fun v21=>csel v21
 ((Zd .plain .add (.string ⟨#[40,108,101,116,32,120,32]⟩) q5.1).bind fun v22=>(Zd .plain .add v22 (.string ⟨#[32]⟩)).bind fun v23=>(Zd .plain .add v23 q7.1).bind fun v24=>(Zd .plain .add v24 (.string ⟨#[41]⟩)).bind fun v25=>some (v25,q8.2.1,q8.2.2+13))
 ((Zd .plain .eql q8.1 (.int .i64 3)).bind fun v26=>csel v26
 ((Zd .plain .add (.string ⟨#[40,100,111,32]⟩) q5.1).bind fun v27=>(Zd .plain .add v27 (.string ⟨#[32]⟩)).bind fun v28=>(Zd .plain .add v28 q7.1).bind fun v29=>(Zd .plain .add v29 (.string ⟨#[41]⟩)).bind fun v30=>some (v30,q8.2.1,q8.2.2+15))
 ((Zd .plain .eql q8.1 (.int .i64 4)).bind fun v31=>csel v31
 ((Zd .plain .add (.string ⟨#[40,112,114,105,110,116,32]⟩) q5.1).bind fun v32=>(Zd .plain .add v32 (.string ⟨#[41]⟩)).bind fun v33=>some (v33,q8.2.1,q8.2.2+14))
 ((Zd .plain .eql q8.1 (.int .i64 5)).bind fun v34=>csel v34
 ((Zd .plain .add (.string ⟨#[40,40,102,110,32,40,121,41,32]⟩) q5.1).bind fun v35=>(Zd .plain .add v35 (.string ⟨#[41,32]⟩)).bind fun v36=>(Zd .plain .add v36 q7.1).bind fun v37=>(Zd .plain .add v37 (.string ⟨#[41]⟩)).bind fun v38=>some (v38,q8.2.1,q8.2.2+19))
 ((Zd .plain .eql q8.1 (.int .i64 6)).bind fun v39=>csel v39
 ((Xx (q8.2.2+15) 1 7 [.string ⟨#[]⟩] [(0,1,.string ⟨#[43]⟩),(1,1,.string ⟨#[45]⟩),(2,1,.string ⟨#[42]⟩),(3,1,.string ⟨#[60]⟩),(4,1,.string ⟨#[61]⟩),(5,1,.string ⟨#[99,111,110,115]⟩),(6,1,.string ⟨#[101,113,63]⟩)] q8.2.1).bind fun p40=>(C 110 [t 0,p40.1] p40.2 (q8.2.2+26)).bind fun q41=>(Zd .plain .add (.string ⟨#[40]⟩) q41.1).bind fun v42=>(Zd .plain .add v42 (.string ⟨#[32]⟩)).bind fun v43=>(Zd .plain .add v43 q5.1).bind fun v44=>(Zd .plain .add v44 (.string ⟨#[32]⟩)).bind fun v45=>(Zd .plain .add v45 q7.1).bind fun v46=>(Zd .plain .add v46 (.string ⟨#[41]⟩)).bind fun v47=>some (v47,q41.2.1,q41.2.2))
 ((Zd .plain .eql q8.1 (.int .i64 7)).bind fun v48=>csel v48
 ((Xx (q8.2.2+17) 1 6 [.string ⟨#[]⟩] [(0,1,.string ⟨#[99,97,114]⟩),(1,1,.string ⟨#[99,100,114]⟩),(2,1,.string ⟨#[110,117,108,108,63]⟩),(3,1,.string ⟨#[112,97,105,114,63]⟩),(4,1,.string ⟨#[110,111,116]⟩),(5,1,.string ⟨#[99,97,108,108,99,99]⟩)] q8.2.1).bind fun p49=>(C 110 [t 0,p49.1] p49.2 (q8.2.2+25)).bind fun q50=>(Zd .plain .add (.string ⟨#[40]⟩) q50.1).bind fun v51=>(Zd .plain .add v51 (.string ⟨#[32]⟩)).bind fun v52=>(Zd .plain .add v52 q5.1).bind fun v53=>(Zd .plain .add v53 (.string ⟨#[41]⟩)).bind fun v54=>some (v54,q50.2.1,q50.2.2))
 (some (q5.1,q8.2.1,q8.2.2+18))))))))))
theorem s149 (C:Zb)(L:Zc->Zc)(t:Tm)(H:Hp)(n:Nat):Zq Tryz.prog C L Tryz.f149 t H n=S149 C L t H n:=by kernel_rfl
theorem c149 (args:List Value)(H:Hp)(n:Nat):Call Tryz.prog 149 args H n=S149 (Call Tryz.prog) Zm (Zp args) H n:=(Zg Tryz.func149 args H n).trans (s149 ..)
noncomputable def S150 (C:Zb)(L:Zc->Zc)(t:Tm)(H:Hp)(n:Nat):Option (Value × Hp × Nat) :=
 (Xx (n) 1 0 [.int .i64 0] [] H).bind fun p1=>(Zh (t 0)).bind fun v2=>(Za 0 v2).bind fun v3=>(Za 0 v3).bind fun v4=>(ld false 1 v4 p1.2).bind fun v5=>(Zo 5 v5 (t 1)).bind fun v6=>(Za 0 v6).bind fun v7=>(ld false 1 v7 p1.2).bind fun v8=>(Zd .plain .eql v8 (.int .i64 5)).bind fun v9=>let t11:Tm:=put (put (put (put (put (put (put (put (put (put (put (put (put t 11 p1.1) 4 p1.1) 5 (.bool false)) 12 (t 0)) 13 v2) 14 v3) 15 v4) 16 v5) 17 (t 1)) 18 v6) 19 v7) 20 v8) 21 v9
 (csel v9
 ((Zh (t11 0)).bind fun v12=>(Za 0 v12).bind fun v13=>(ld true 1 v13 p1.2).bind fun v14=>(C 139 [v14,t11 1] p1.2 (n+24)).bind fun q15=>(ext 0 q15.1).bind fun v16=>(ext 1 q15.1).bind fun v17=>some ⟨.normal,put (put (put (put (put (put (put (put (put (put (put t11 23 (t11 0)) 24 v12) 25 v13) 26 v14) 27 (t11 1)) 28 q15.1) 22 q15.1) 29 v16) 30 v17) 4 v16) 5 v17,q15.2.1,q15.2.2⟩)
 (some ⟨.normal,t11,p1.2,n+13⟩)
 ).bind fun(o10:Out)=>(un .not (o10.t 5)).bind fun v18=>let t20:Tm:=put (put (put o10.t 31 (o10.t 5)) 32 v18) 33 v18
 (gsel v18 false
 ((Zh (t20 0)).bind fun v21=>(Za 0 v21).bind fun v22=>(Za 0 v22).bind fun v23=>(ld false 1 v23 o10.H).bind fun v24=>(Zo 1 (t20 4) (.int .i64 0)).bind fun v25=>(ld false 1 v25 o10.H).bind fun v26=>(Zo 5 v24 v26).bind fun v27=>(Za 0 v27).bind fun v28=>(ld false 1 v28 o10.H).bind fun v29=>(Zd .plain .neq v29 (.int .i64 4)).bind fun v30=>some ⟨put (put (put (put (put (put (put (put (put (put (put (put t20 34 (t20 0)) 35 v21) 36 v22) 37 v23) 38 v24) 39 (t20 4)) 40 v25) 41 v26) 42 v27) 43 v28) 44 v29) 45 v30,o10.H,o10.n+30,[⟨13,false,1,v28,v29⟩,⟨10,false,1,v25,v26⟩,⟨7,false,1,v23,v24⟩],[]⟩)
 (some ⟨put (put (put (put (put (put (put (put (put (put (put (put t20 34 (.tuple #[])) 35 (.tuple #[])) 36 (.tuple #[])) 37 (.tuple #[])) 38 (.tuple #[])) 39 (.tuple #[])) 40 (.tuple #[])) 41 (.tuple #[])) 42 (.tuple #[])) 43 (.tuple #[])) 44 (.tuple #[])) 45 (.tuple #[]),o10.H,o10.n+30,[],[]⟩)
 ).bind fun(q19:R5)=>(Zl (q19.t 33) (.bool true) (q19.t 45)).bind fun v31=>let t33:Tm:=put (put q19.t 46 v31) 47 v31
 (gsel v31 false
 ((Zh (t33 0)).bind fun v34=>(Za 0 v34).bind fun v35=>(Za 0 v35).bind fun v36=>(ld false 1 v36 q19.H).bind fun v37=>askB 2097151 false 1 v36 v37 q19.hs <|(Zo 1 (t33 4) (.int .i64 0)).bind fun v38=>(ld false 1 v38 q19.H).bind fun v39=>askB 12713983 false 1 v38 v39 q19.hs <|(Zo 5 v37 v39).bind fun v40=>(Za 2 v40).bind fun v41=>(ld false 1 v41 q19.H).bind fun v42=>askB 134217727 false 1 v41 v42 q19.hs <|(Zd .plain .neq v42 (.string ⟨#[100,101,102,105,110,101]⟩)).bind fun v43=>some ⟨put (put (put (put (put (put (put (put (put (put (put (put t33 48 (t33 0)) 49 v34) 50 v35) 51 v36) 52 v37) 53 (t33 4)) 54 v38) 55 v39) 56 v40) 57 v41) 58 v42) 59 v43,q19.H,q19.n,(⟨27,false,1,v41,v42⟩ :: ⟨24,false,1,v38,v39⟩ :: ⟨21,false,1,v36,v37⟩ :: q19.rs),q19.hs⟩)
 (some ⟨put (put (put (put (put (put (put (put (put (put (put (put t33 48 (.tuple #[])) 49 (.tuple #[])) 50 (.tuple #[])) 51 (.tuple #[])) 52 (.tuple #[])) 53 (.tuple #[])) 54 (.tuple #[])) 55 (.tuple #[])) 56 (.tuple #[])) 57 (.tuple #[])) 58 (.tuple #[])) 59 (.tuple #[]),q19.H,q19.n,q19.rs,q19.hs⟩)
 ).bind fun(q32:R5)=>(Zl (q32.t 47) (.bool true) (q32.t 59)).bind fun v44=>csel v44
 ((Xx (q32.n+1) 1 0 [.string ⟨#[]⟩] [] q32.H).bind fun p45=>(Xx (q32.n+3) 1 1 [.int .i64 0] [(0,1,q32.t 1)] p45.2).bind fun p46=>(C 157 [q32.t 0,.string ⟨#[109,97,105,110]⟩,p45.1,p46.1] p46.2 (q32.n+5)).bind fun q47=>some (.tuple ⟨[]⟩,q47.2.1,q47.2.2))
 ((Zx false (q32.t 4)).bind fun v48=>(Zd .plain .lss v48 (.int .i64 3)).bind fun v49=>let t51:Tm:=put (put (put (put (put q32.t 60 v44) 66 (q32.t 4)) 67 v48) 68 v49) 69 v49
 (gsel v49 false
 ((Zh (t51 0)).bind fun v52=>(Za 0 v52).bind fun v53=>(Za 0 v53).bind fun v54=>(ld false 1 v54 q32.H).bind fun v55=>(Zo 1 (t51 4) (.int .i64 1)).bind fun v56=>(ld false 1 v56 q32.H).bind fun v57=>(Zo 5 v55 v57).bind fun v58=>(Za 0 v58).bind fun v59=>(ld false 1 v59 q32.H).bind fun v60=>(Zd .plain .neq v60 (.int .i64 5)).bind fun v61=>some ⟨put (put (put (put (put (put (put (put (put (put (put (put t51 70 (t51 0)) 71 v52) 72 v53) 73 v54) 74 v55) 75 (t51 4)) 76 v56) 77 v57) 78 v58) 79 v59) 80 v60) 81 v61,q32.H,q32.n+17,[⟨14,false,1,v59,v60⟩,⟨11,false,1,v56,v57⟩,⟨8,false,1,v54,v55⟩],[]⟩)
 (some ⟨put (put (put (put (put (put (put (put (put (put (put (put t51 70 (.tuple #[])) 71 (.tuple #[])) 72 (.tuple #[])) 73 (.tuple #[])) 74 (.tuple #[])) 75 (.tuple #[])) 76 (.tuple #[])) 77 (.tuple #[])) 78 (.tuple #[])) 79 (.tuple #[])) 80 (.tuple #[])) 81 (.tuple #[]),q32.H,q32.n+17,[],[]⟩)
 ).bind fun(q50:R5)=>(Zl (q50.t 69) (.bool true) (q50.t 81)).bind fun v62=>csel v62
 ((Zh (q50.t 0)).bind fun v63=>(Za 3 v63).bind fun v64=>(st false 1 v64 (.int .i64 1) q50.H).bind fun H65=>some (.tuple ⟨[]⟩,H65,q50.n+4))
 ((Zh (q50.t 0)).bind fun v66=>(Za 0 v66).bind fun v67=>(ld true 1 v67 q50.H).bind fun v68=>(Zo 1 (q50.t 4) (.int .i64 1)).bind fun v69=>(ld false 1 v69 q50.H).bind fun v70=>(C 139 [v68,v70] q50.H (q50.n+13)).bind fun q71=>(ext 0 q71.1).bind fun v72=>(ext 1 q71.1).bind fun v73=>(un .not v73).bind fun v74=>csel v74
 ((Zh (q50.t 0)).bind fun v75=>(Za 3 v75).bind fun v76=>(st false 1 v76 (.int .i64 1) q71.2.1).bind fun H77=>some (.tuple ⟨[]⟩,H77,q71.2.2+6))
 ((Zo 1 v72 (.int .i64 0)).bind fun v78=>(ld false 1 v78 q71.2.1).bind fun v79=>(C 158 [q50.t 0,v79] q71.2.1 (q71.2.2+12)).bind fun q80=>(ext 0 q80.1).bind fun v81=>(ext 1 q80.1).bind fun v82=>(un .not v82).bind fun v83=>csel v83
 ((Zh (q50.t 0)).bind fun v84=>(Za 3 v84).bind fun v85=>(st false 1 v85 (.int .i64 1) q80.2.1).bind fun H86=>some (.tuple ⟨[]⟩,H86,q80.2.2+6))
 ((Yt 1 v72 (some (.int .i64 1)) none).bind fun v87=>(C 159 [q50.t 0,v87] q80.2.1 (q80.2.2+7)).bind fun q88=>(Yt 1 (q50.t 4) (some (.int .i64 2)) none).bind fun v89=>(C 157 [q50.t 0,v81,q88.1,v89] q88.2.1 (q88.2.2+6)).bind fun q90=>some (.tuple ⟨[]⟩,q90.2.1,q90.2.2)))))
theorem s150 (C:Zb)(L:Zc->Zc)(t:Tm)(H:Hp)(n:Nat):Zq Tryz.prog C L Tryz.f150 t H n=S150 C L t H n:=by kernel_rfl
theorem c150 (args:List Value)(H:Hp)(n:Nat):Call Tryz.prog 150 args H n=S150 (Call Tryz.prog) Zm (Zp args) H n:=(Zg Tryz.func150 args H n).trans (s150 ..)
noncomputable def S151L0 (C:Zb)(L:Zc->Zc):Zc:=fun t H n=>(Zd .plain .lss (t 8) (t 7)).bind fun v3=>csel v3
 ((Zo 1 (t 0) (t 8)).bind fun v4=>(ld false 1 v4 H).bind fun v5=>(Zd .plain .eql (t 1) v5).bind fun v6=>csel v6
 (some ⟨.ret,put (put (put (put (put (put (put (put (put (put (put t 9 v3) 10 (t 8)) 5 (t 8)) 11 (t 1)) 12 (t 0)) 13 (t 8)) 14 v4) 15 v5) 16 v6) 17 (t 8)) 4 (t 8),H,n+11⟩)
 ((Zd .plain .add (t 8) (.int .i64 1)).bind fun v7=>some ⟨.normal,put (put (put (put (put (put (put (put (put (put (put t 9 v3) 10 (t 8)) 5 (t 8)) 11 (t 1)) 12 (t 0)) 13 (t 8)) 14 v4) 15 v5) 16 v6) 18 v7) 8 v7,H,n+11⟩))
 (some ⟨(.exit 0),put t 9 v3,H,n+1⟩)
noncomputable def S151 (C:Zb)(L:Zc->Zc)(t:Tm)(H:Hp)(n:Nat):Option (Value × Hp × Nat) :=
 (Zx false (t 0)).bind fun v1=>(L (S151L0 C L) (put (put (put (put t 4 (.int .i64 0)) 6 (t 0)) 7 v1) 8 (.int .i64 0)) H (n+4)).bind fun(o2:Out)=>let o8:=outOf 0 o2
 Xe o8
 (some (.int .i64 (-1),o8.H,o8.n+1))
 (Vs o8.e
 (some (o8.t 4,o8.H,o8.n)))
theorem s151 (C:Zb)(L:Zc->Zc)(t:Tm)(H:Hp)(n:Nat):Zq Tryz.prog C L Tryz.f151 t H n=S151 C L t H n:=by kernel_rfl
theorem c151 (args:List Value)(H:Hp)(n:Nat):Call Tryz.prog 151 args H n=S151 (Call Tryz.prog) Zm (Zp args) H n:=(Zg Tryz.func151 args H n).trans (s151 ..)
noncomputable def S152 (C:Zb)(L:Zc->Zc)(t:Tm)(H:Hp)(n:Nat):Option (Value × Hp × Nat) :=
 (C 47 [t 0,.int .i64 1,.int .i64 19] H (n+4)).bind fun q1=>(un .not q1.1).bind fun v2=>csel v2
 (some (.int .i64 (-1),q1.2.1,q1.2.2+1))
 ((Xx (q1.2.2) 1 20 [.int .i64 0] [(0,1,.int .i64 0),(1,1,.int .i64 2),(2,1,.int .i64 2),(3,1,.int .i64 2),(4,1,.int .i64 2),(5,1,.int .i64 2),(6,1,.int .i64 2),(7,1,.int .i64 1),(8,1,.int .i64 1),(9,1,.int .i64 1),(10,1,.int .i64 1),(11,1,.int .i64 2),(12,1,.int .i64 1),(13,1,.int .i64 1),(14,1,.int .i64 0),(15,1,.int .i64 2),(16,1,.int .i64 0),(17,1,.int .i64 1),(18,1,.int .i64 1),(19,1,.int .i64 1)] q1.2.1).bind fun p3=>(Zo 1 p3.1 (t 0)).bind fun v4=>(ld false 1 v4 p3.2).bind fun v5=>some (v5,p3.2,q1.2.2+5))
theorem s152 (C:Zb)(L:Zc->Zc)(t:Tm)(H:Hp)(n:Nat):Zq Tryz.prog C L Tryz.f152 t H n=S152 C L t H n:=by kernel_rfl
theorem c152 (args:List Value)(H:Hp)(n:Nat):Call Tryz.prog 152 args H n=S152 (Call Tryz.prog) Zm (Zp args) H n:=(Zg Tryz.func152 args H n).trans (s152 ..)
noncomputable def S153 (C:Zb)(L:Zc->Zc)(t:Tm)(H:Hp)(n:Nat):Option (Value × Hp × Nat) :=
 (Zh (t 0)).bind fun v1=>(Za 0 v1).bind fun v2=>(ld false 1 v2 H).bind fun v3=>(Zo 1 (t 2) (.int .i64 0)).bind fun v4=>(ld false 1 v4 H).bind fun v5=>(Zo 5 v3 v5).bind fun v6=>(ld true 5 v6 H).bind fun v7=>let H8:=H.set (n+11) (some (.row [.int .i64 0,.int .i64 0,.string ⟨#[]⟩,.int .i64 0,.int .i64 0] 0 true))
 (st true 5 (ptr (n+11) 0) v7 H8).bind fun H9=>(Zd .plain .leq (t 1) (.int .i64 5)).bind fun v10=>csel v10
 ((ld true 5 (ptr (n+11) 0) H9).bind fun v11=>(Zh (t 0)).bind fun v12=>(Za 0 v12).bind fun v13=>(ld false 1 v13 H9).bind fun v14=>(Zo 1 (t 2) (.int .i64 1)).bind fun v15=>(ld false 1 v15 H9).bind fun v16=>(Zo 5 v14 v16).bind fun v17=>(ld true 5 v17 H9).bind fun v18=>(C 160 [t 1,v11,v18] H9 (n+34)).bind fun q19=>(ext 0 q19.1).bind fun v20=>(ext 1 q19.1).bind fun v21=>let H22:=q19.2.1.set (n+31) (some (.row [.int .i64 0,.int .i64 0,.string ⟨#[]⟩,.int .i64 0,.int .i64 0] 0 true))
 (st true 5 (ptr (n+31) 0) v20 H22).bind fun H23=>(Zd .plain .neq v21 (.int .i64 0)).bind fun v24=>csel v24
 (Yr ([.int .i64 (-1),v21].all notTup) <|some (.tuple ⟨[.int .i64 (-1),v21]⟩,H23,q19.2.2+5))
 ((ld true 5 (ptr (n+31) 0) H23).bind fun v25=>(C 88 [t 0,v25] H23 (q19.2.2+8)).bind fun q26=>Yr ([q26.1,v21].all notTup) <|some (.tuple ⟨[q26.1,v21]⟩,q26.2.1,q26.2.2)))
 ((Zd .plain .eql (t 1) (.int .i64 6)).bind fun v27=>csel v27
 ((Zo 1 (t 2) (.int .i64 0)).bind fun v28=>(ld false 1 v28 H9).bind fun v29=>(Zo 1 (t 2) (.int .i64 1)).bind fun v30=>(ld false 1 v30 H9).bind fun v31=>(Xf [.int .i64 0,.int .i64 0,.string ⟨#[]⟩,.int .i64 0,.int .i64 0] [(0,1,.int .i64 5),(3,1,v29),(4,1,v31)]).bind fun v32=>(C 88 [t 0,v32] H9 (n+30)).bind fun q33=>Yr ([q33.1,.int .i64 0].all notTup) <|some (.tuple ⟨[q33.1,.int .i64 0]⟩,q33.2.1,q33.2.2))
 ((Zd .plain .leq (t 1) (.int .i64 8)).bind fun v34=>csel v34
 ((Za 0 (ptr (n+11) 0)).bind fun v35=>(ld false 1 v35 H9).bind fun v36=>(Zd .plain .neq v36 (.int .i64 5)).bind fun v37=>csel v37
 (Yr ([.int .i64 (-1),.int .i64 3].all notTup) <|some (.tuple ⟨[.int .i64 (-1),.int .i64 3]⟩,H9,n+27))
 ((Zd .plain .eql (t 1) (.int .i64 7)).bind fun v38=>csel v38
 ((Za 3 (ptr (n+11) 0)).bind fun v39=>(ld false 1 v39 H9).bind fun v40=>Yr ([v40,.int .i64 0].all notTup) <|some (.tuple ⟨[v40,.int .i64 0]⟩,H9,n+31))
 ((Za 4 (ptr (n+11) 0)).bind fun v41=>(ld false 1 v41 H9).bind fun v42=>Yr ([v42,.int .i64 0].all notTup) <|some (.tuple ⟨[v42,.int .i64 0]⟩,H9,n+31))))
 ((Zd .plain .eql (t 1) (.int .i64 9)).bind fun v43=>csel v43
 ((Za 0 (ptr (n+11) 0)).bind fun v44=>(ld false 1 v44 H9).bind fun v45=>(Zd .plain .eql v45 (.int .i64 1)).bind fun v46=>(C 161 [v46] H9 (n+33)).bind fun q47=>(C 88 [t 0,q47.1] q47.2.1 (q47.2.2)).bind fun q48=>Yr ([q48.1,.int .i64 0].all notTup) <|some (.tuple ⟨[q48.1,.int .i64 0]⟩,q48.2.1,q48.2.2))
 ((Zd .plain .eql (t 1) (.int .i64 10)).bind fun v49=>csel v49
 ((Za 0 (ptr (n+11) 0)).bind fun v50=>(ld false 1 v50 H9).bind fun v51=>(Zd .plain .eql v51 (.int .i64 5)).bind fun v52=>(C 161 [v52] H9 (n+36)).bind fun q53=>(C 88 [t 0,q53.1] q53.2.1 (q53.2.2)).bind fun q54=>Yr ([q54.1,.int .i64 0].all notTup) <|some (.tuple ⟨[q54.1,.int .i64 0]⟩,q54.2.1,q54.2.2))
 ((Zd .plain .eql (t 1) (.int .i64 11)).bind fun v55=>csel v55
 ((Zh (t 0)).bind fun v56=>(ld true 1 v56 H9).bind fun v57=>(C 162 [v57] H9 (n+36)).bind fun q58=>(Zo 1 (t 2) (.int .i64 0)).bind fun v59=>(ld false 1 v59 q58.2.1).bind fun v60=>(Zo 1 q58.1 v60).bind fun v61=>(ld false 1 v61 q58.2.1).bind fun v62=>(Zo 1 (t 2) (.int .i64 1)).bind fun v63=>(ld false 1 v63 q58.2.1).bind fun v64=>(Zo 1 q58.1 v64).bind fun v65=>(ld false 1 v65 q58.2.1).bind fun v66=>(Zd .plain .eql v62 v66).bind fun v67=>(C 161 [v67] q58.2.1 (q58.2.2+18)).bind fun q68=>(C 88 [t 0,q68.1] q68.2.1 (q68.2.2)).bind fun q69=>Yr ([q69.1,.int .i64 0].all notTup) <|some (.tuple ⟨[q69.1,.int .i64 0]⟩,q69.2.1,q69.2.2))
 ((Za 0 (ptr (n+11) 0)).bind fun v70=>(ld false 1 v70 H9).bind fun v71=>(Zd .plain .eql v71 (.int .i64 2)).bind fun v72=>let t74:Tm:=put (put (put (put (put (put (put (put (put (put (put (put (put (put (put (put (put (put (put (put (put (put (put (put (put (put (put (put (put (put (put (put (put (put (put t 6 (.int .i64 0)) 7 (.int .i64 0)) 12 (t 0)) 13 v1) 14 v2) 15 v3) 16 (t 2)) 17 v4) 18 v5) 19 v6) 20 v7) 8 (ptr (n+11) 0)) 22 (t 1)) 23 v10) 21 v10) 47 (t 1)) 48 v27) 46 v27) 59 (t 1)) 60 v34) 58 v34) 71 (t 1)) 72 v43) 70 v43) 80 (t 1)) 81 v49) 79 v49) 89 (t 1)) 90 v55) 88 v55) 111 (t 0)) 112 v70) 113 v71) 114 v72) 115 v72
 (gsel v72 true
 ((Za 1 (ptr (n+11) 0)).bind fun v75=>(ld false 1 v75 H9).bind fun v76=>(Zd .plain .eql v76 (.int .i64 0)).bind fun v77=>some (put (put (put t74 116 v75) 117 v76) 118 v77,H9,n+44))
 (some (put (put (put t74 116 (.tuple #[])) 117 (.tuple #[])) 118 (.tuple #[]),H9,n+44))
 ).bind fun(q73:R3)=>(Zl (q73.1 115) (q73.1 118) (.bool false)).bind fun v78=>(C 161 [v78] q73.2.1 (q73.2.2)).bind fun q79=>(C 88 [q73.1 111,q79.1] q79.2.1 (q79.2.2)).bind fun q80=>Yr ([q80.1,.int .i64 0].all notTup) <|some (.tuple ⟨[q80.1,.int .i64 0]⟩,q80.2.1,q80.2.2)))))))
theorem s153 (C:Zb)(L:Zc->Zc)(t:Tm)(H:Hp)(n:Nat):Zq Tryz.prog C L Tryz.f153 t H n=S153 C L t H n:=by kernel_rfl
theorem c153 (args:List Value)(H:Hp)(n:Nat):Call Tryz.prog 153 args H n=S153 (Call Tryz.prog) Zm (Zp args) H n:=(Zg Tryz.func153 args H n).trans (s153 ..)
noncomputable def S154 (C:Zb)(L:Zc->Zc)(t:Tm)(H:Hp)(n:Nat):Option (Value × Hp × Nat) :=
 (Zs (t 0)).bind fun c2=>let H1:=H.set (n) (some (.row c2 0 true))
 let H3:=H1.set (n+1) (some (.row [.int .i64 0,.int .i64 0,.string ⟨#[]⟩,.int .i64 0,.int .i64 0] 0 true))
 (Za 0 (ptr (n) 0)).bind fun v4=>(ld false 1 v4 H3).bind fun v5=>(Zo 1 (t 2) (.int .i64 0)).bind fun v6=>(ld false 1 v6 H3).bind fun v7=>(Zo 5 v5 v7).bind fun v8=>(ld true 5 v8 H3).bind fun v9=>let H10:=H3.set (n+9) (some (.row [.int .i64 0,.int .i64 0,.string ⟨#[]⟩,.int .i64 0,.int .i64 0] 0 true))
 (st true 5 (ptr (n+9) 0) v9 H10).bind fun H11=>(Zd .plain .eql (t 1) (.int .i64 6)).bind fun v12=>csel v12
 ((Zo 1 (t 2) (.int .i64 0)).bind fun v13=>(ld false 1 v13 H11).bind fun v14=>(Zo 1 (t 2) (.int .i64 1)).bind fun v15=>(ld false 1 v15 H11).bind fun v16=>(Xf [.int .i64 0,.int .i64 0,.string ⟨#[]⟩,.int .i64 0,.int .i64 0] [(0,1,.int .i64 5),(3,1,v14),(4,1,v16)]).bind fun v17=>(st true 5 (ptr (n+1) 0) v17 H11).bind fun H18=>(ld true 5 (ptr (n+1) 0) H18).bind fun v19=>some (v19,H18,n+22))
 ((Zd .plain .eql (t 1) (.int .i64 9)).bind fun v20=>csel v20
 ((Za 0 (ptr (n+9) 0)).bind fun v21=>(ld false 1 v21 H11).bind fun v22=>(Zd .plain .eql v22 (.int .i64 1)).bind fun v23=>(C 163 [v23] H11 (n+21)).bind fun q24=>(st true 5 (ptr (n+1) 0) q24.1 q24.2.1).bind fun H25=>(ld true 5 (ptr (n+1) 0) H25).bind fun v26=>some (v26,H25,q24.2.2))
 ((Zd .plain .eql (t 1) (.int .i64 10)).bind fun v27=>csel v27
 ((Za 0 (ptr (n+9) 0)).bind fun v28=>(ld false 1 v28 H11).bind fun v29=>(Zd .plain .eql v29 (.int .i64 5)).bind fun v30=>(C 163 [v30] H11 (n+23)).bind fun q31=>(st true 5 (ptr (n+1) 0) q31.1 q31.2.1).bind fun H32=>(ld true 5 (ptr (n+1) 0) H32).bind fun v33=>some (v33,H32,q31.2.2))
 ((Zd .plain .eql (t 1) (.int .i64 11)).bind fun v34=>csel v34
 ((ld true 1 (ptr (n) 0) H11).bind fun v35=>(Zo 1 (t 2) (.int .i64 0)).bind fun v36=>(ld false 1 v36 H11).bind fun v37=>(Zo 1 (t 2) (.int .i64 1)).bind fun v38=>(ld false 1 v38 H11).bind fun v39=>(C 164 [v35,v37,v39] H11 (n+30)).bind fun q40=>(C 163 [q40.1] q40.2.1 (q40.2.2)).bind fun q41=>(st true 5 (ptr (n+1) 0) q41.1 q41.2.1).bind fun H42=>(ld true 5 (ptr (n+1) 0) H42).bind fun v43=>some (v43,H42,q41.2.2))
 ((Zd .plain .eql (t 1) (.int .i64 12)).bind fun v44=>csel v44
 ((Za 0 (ptr (n+9) 0)).bind fun v45=>(ld false 1 v45 H11).bind fun v46=>(Zd .plain .eql v46 (.int .i64 2)).bind fun v47=>let t49:Tm:=put (put (put (put (put (put (put (put (put (put (put (put (put (put (put (put (put (put (put (put (put (put (put (put (put t 3 (ptr (n) 0)) 6 (ptr (n+1) 0)) 8 v4) 9 v5) 10 (t 2)) 11 v6) 12 v7) 13 v8) 14 v9) 7 (ptr (n+9) 0)) 15 (t 1)) 17 v12) 16 v12) 26 v20) 25 v20) 32 v27) 31 v27) 38 v34) 37 v34) 49 v44) 48 v44) 50 v45) 51 v46) 52 v47) 53 v47
 (gsel v47 true
 ((Za 1 (ptr (n+9) 0)).bind fun v50=>(ld false 1 v50 H11).bind fun v51=>(Zd .plain .eql v51 (.int .i64 0)).bind fun v52=>some (put (put (put t49 54 v50) 55 v51) 56 v52,H11,n+32))
 (some (put (put (put t49 54 (.tuple #[])) 55 (.tuple #[])) 56 (.tuple #[]),H11,n+32))
 ).bind fun(q48:R3)=>(Zl (q48.1 53) (q48.1 56) (.bool false)).bind fun v53=>(C 163 [v53] q48.2.1 (q48.2.2)).bind fun q54=>(st true 5 (q48.1 6) q54.1 q54.2.1).bind fun H55=>(ld true 5 (q48.1 6) H55).bind fun v56=>some (v56,H55,q54.2.2))
 ((Za 1 (ptr (n+9) 0)).bind fun v57=>(ld false 1 v57 H11).bind fun v58=>(Za 0 (ptr (n) 0)).bind fun v59=>(ld false 1 v59 H11).bind fun v60=>(Zo 1 (t 2) (.int .i64 1)).bind fun v61=>(ld false 1 v61 H11).bind fun v62=>(Zo 5 v60 v62).bind fun v63=>(Za 1 v63).bind fun v64=>(ld false 1 v64 H11).bind fun v65=>(C 165 [t 1,v58,v65] H11 (n+35)).bind fun q66=>(st true 5 (ptr (n+1) 0) q66.1 q66.2.1).bind fun H67=>(ld true 5 (ptr (n+1) 0) H67).bind fun v68=>some (v68,H67,q66.2.2))))))
theorem s154 (C:Zb)(L:Zc->Zc)(t:Tm)(H:Hp)(n:Nat):Zq Tryz.prog C L Tryz.f154 t H n=S154 C L t H n:=by kernel_rfl
theorem c154 (args:List Value)(H:Hp)(n:Nat):Call Tryz.prog 154 args H n=S154 (Call Tryz.prog) Zm (Zp args) H n:=(Zg Tryz.func154 args H n).trans (s154 ..)
noncomputable def S155 (C:Zb)(L:Zc->Zc)(t:Tm)(H:Hp)(n:Nat):Option (Value × Hp × Nat) :=
 (Zd .plain .geq (t 0) (.int .u8 48)).bind fun v1=>let t3:Tm:=put (put (put (put t 2 (.bool false)) 3 (t 0)) 4 v1) 5 v1
 (gsel v1 true
 ((Zd .plain .leq (t3 0) (.int .u8 57)).bind fun v4=>some (put (put t3 6 (t3 0)) 7 v4,H,n+8))
 (some (put (put t3 6 (.tuple #[])) 7 (.tuple #[]),H,n+8))
 ).bind fun(q2:R3)=>(Zl (q2.1 5) (q2.1 7) (.bool false)).bind fun v5=>some (v5,q2.2.1,q2.2.2)
theorem s155 (C:Zb)(L:Zc->Zc)(t:Tm)(H:Hp)(n:Nat):Zq Tryz.prog C L Tryz.f155 t H n=S155 C L t H n:=by kernel_rfl
theorem c155 (args:List Value)(H:Hp)(n:Nat):Call Tryz.prog 155 args H n=S155 (Call Tryz.prog) Zm (Zp args) H n:=(Zg Tryz.func155 args H n).trans (s155 ..)
noncomputable def S156L0 (C:Zb)(L:Zc->Zc):Zc:=fun t H n=>(Zx true (t 4)).bind fun v19=>(Zd .plain .lss (t 6) v19).bind fun v20=>csel v20
 ((idxS (t 4) (t 6)).bind fun v21=>(C 155 [v21] H (n+9)).bind fun q22=>(un .not q22.1).bind fun v23=>csel v23
 (some ⟨.ret,put (put (put (put (put (put (put (put (put (put (put t 26 (t 6)) 27 (t 4)) 28 v19) 29 v20) 32 (t 4)) 33 (t 6)) 34 v21) 35 q22.1) 36 v23) 2 (.int .i64 0)) 3 (.bool false),q22.2.1,q22.2.2+2⟩)
 ((Zd .plain .mul (.int .i64 10) (t 5)).bind fun v24=>(idxS (t 4) (t 6)).bind fun v25=>(conv (.toInt .i64) (q22.2.2+5) v25 q22.2.1).bind fun p26=>(Zd .plain .add v24 p26.1).bind fun v27=>(Zd .plain .sub v27 (.int .i64 48)).bind fun v28=>(Zd .plain .add (t 6) (.int .i64 1)).bind fun v29=>some ⟨.normal,put (put (put (put (put (put (put (put (put (put (put (put (put (put (put (put (put (put (put (put (put t 26 (t 6)) 27 (t 4)) 28 v19) 29 v20) 32 (t 4)) 33 (t 6)) 34 v21) 35 q22.1) 36 v23) 37 (t 5)) 38 v24) 39 (t 4)) 40 (t 6)) 41 v25) 42 p26.1) 43 v27) 44 v28) 5 v28) 30 (t 6)) 31 v29) 6 v29,p26.2,q22.2.2+12⟩))
 (some ⟨(.exit 0),put (put (put (put t 26 (t 6)) 27 (t 4)) 28 v19) 29 v20,H,n+4⟩)
noncomputable def S156 (C:Zb)(L:Zc->Zc)(t:Tm)(H:Hp)(n:Nat):Option (Value × Hp × Nat) :=
 (Zx true (t 0)).bind fun v1=>(Zd .plain .gtr v1 (.int .i64 1)).bind fun v2=>let t4:Tm:=put (put (put (put (put (put (put (put t 2 (.int .i64 0)) 3 (.bool false)) 7 (t 0)) 4 (t 0)) 8 (t 0)) 9 v1) 10 v2) 11 v2
 (gsel v2 true
 ((idxS (t4 0) (.int .i64 0)).bind fun v5=>(Zd .plain .eql v5 (.int .u8 45)).bind fun v6=>some (put (put (put t4 12 (t4 0)) 13 v5) 14 v6,H,n+12))
 (some (put (put (put t4 12 (.tuple #[])) 13 (.tuple #[])) 14 (.tuple #[]),H,n+12))
 ).bind fun(q3:R3)=>(Zl (q3.1 11) (q3.1 14) (.bool false)).bind fun v7=>let t9:Tm:=put q3.1 15 v7
 (csel v7
 ((Yt 0 (t9 0) (some (.int .i64 1)) none).bind fun v10=>some ⟨.normal,put (put (put t9 16 (t9 0)) 17 v10) 4 v10,q3.2.1,q3.2.2+3⟩)
 (some ⟨.normal,t9,q3.2.1,q3.2.2⟩)
 ).bind fun(o8:Out)=>(Zx true (o8.t 4)).bind fun v11=>(Zd .plain .gtr v11 (.int .i64 10)).bind fun v12=>let t14:Tm:=put (put (put (put o8.t 18 (o8.t 4)) 19 v11) 20 v12) 21 v12
 (gsel v12 false
 ((Zx true (t14 4)).bind fun v15=>(Zd .plain .eql v15 (.int .i64 0)).bind fun v16=>some (put (put (put t14 22 (t14 4)) 23 v15) 24 v16,o8.H,o8.n+8))
 (some (put (put (put t14 22 (.tuple #[])) 23 (.tuple #[])) 24 (.tuple #[]),o8.H,o8.n+8))
 ).bind fun(q13:R3)=>(Zl (q13.1 21) (.bool true) (q13.1 24)).bind fun v17=>csel v17
 (Yr ([.int .i64 0,.bool false].all notTup) <|some (.tuple ⟨[.int .i64 0,.bool false]⟩,q13.2.1,q13.2.2+2))
 ((L (S156L0 C L) (put (put (put q13.1 25 v17) 5 (.int .i64 0)) 6 (.int .i64 0)) q13.2.1 (q13.2.2+2)).bind fun(o18:Out)=>let o30:=outOf 0 o18
 Xe o30
 ((Zx true (o30.t 4)).bind fun v31=>(Zx true (o30.t 0)).bind fun v32=>(Zd .plain .neq v31 v32).bind fun v33=>let t35:Tm:=put (put (put (put (put o30.t 45 (o30.t 4)) 46 v31) 47 (o30.t 0)) 48 v32) 49 v33
 (csel v33
 ((Zd .plain .sub (.int .i64 0) (t35 5)).bind fun v36=>some ⟨.normal,put (put (put t35 50 (t35 5)) 51 v36) 5 v36,o30.H,o30.n+8⟩)
 (some ⟨.normal,t35,o30.H,o30.n+5⟩)
 ).bind fun(o34:Out)=>(C 166 [o34.t 5] o34.H (o34.n+11)).bind fun q37=>(Zd .plain .eql q37.1 (o34.t 0)).bind fun v38=>let t40:Tm:=put (put (put (put (put (put o34.t 52 (o34.t 5)) 53 (o34.t 5)) 54 q37.1) 55 (o34.t 0)) 56 v38) 57 v38
 (gsel v38 true
 ((C 47 [t40 5,.int .i64 (-1000000000),.int .i64 1000000000] q37.2.1 (q37.2.2)).bind fun q41=>some (put (put t40 58 (t40 5)) 59 q41.1,q41.2.1,q41.2.2))
 (some (put (put t40 58 (.tuple #[])) 59 (.tuple #[]),q37.2.1,q37.2.2))
 ).bind fun(q39:R3)=>(Zl (q39.1 57) (q39.1 59) (.bool false)).bind fun v42=>Yr ([q39.1 52,v42].all notTup) <|some (.tuple ⟨[q39.1 52,v42]⟩,q39.2.1,q39.2.2))
 (Vs o30.e
 (Yr ([o30.t 2,o30.t 3].all notTup) <|some (.tuple ⟨[o30.t 2,o30.t 3]⟩,o30.H,o30.n))))
theorem s156 (C:Zb)(L:Zc->Zc)(t:Tm)(H:Hp)(n:Nat):Zq Tryz.prog C L Tryz.f156 t H n=S156 C L t H n:=by kernel_rfl
theorem c156 (args:List Value)(H:Hp)(n:Nat):Call Tryz.prog 156 args H n=S156 (Call Tryz.prog) Zm (Zp args) H n:=(Zg Tryz.func156 args H n).trans (s156 ..)
noncomputable def S157L0 (C:Zb)(L:Zc->Zc):Zc:=fun t H n=>(Zh (t 0)).bind fun v2=>(Za 2 v2).bind fun v3=>(ld false 1 v3 H).bind fun v4=>(Zx false v4).bind fun v5=>(Zd .plain .lss (t 8) v5).bind fun v6=>let t8:Tm:=put (put (put (put (put (put (put (put t 9 (t 8)) 10 (t 0)) 11 v2) 12 v3) 13 v4) 14 v5) 15 v6) 16 v6
 (gsel v6 true
 ((Zh (t8 0)).bind fun v9=>(Za 3 v9).bind fun v10=>(ld false 1 v10 H).bind fun v11=>(Zd .plain .eql v11 (.int .i64 0)).bind fun v12=>some (put (put (put (put (put t8 17 (t8 0)) 18 v9) 19 v10) 20 v11) 21 v12,H,n+14))
 (some (put (put (put (put (put t8 17 (.tuple #[])) 18 (.tuple #[])) 19 (.tuple #[])) 20 (.tuple #[])) 21 (.tuple #[]),H,n+14))
 ).bind fun(q7:R3)=>(Zl (q7.1 16) (q7.1 21) (.bool false)).bind fun v13=>csel v13
 ((Zh (q7.1 0)).bind fun v14=>(Za 2 v14).bind fun v15=>(ld false 1 v15 q7.2.1).bind fun v16=>(Zo 3 v16 (q7.1 8)).bind fun v17=>(Za 0 v17).bind fun v18=>(ld false 1 v18 q7.2.1).bind fun v19=>(Zd .plain .eql v19 (q7.1 1)).bind fun v20=>let t22:Tm:=put (put (put (put (put (put (put (put (put (put (put q7.1 22 v13) 25 (q7.1 0)) 26 v14) 27 v15) 28 v16) 29 (q7.1 8)) 30 v17) 31 v18) 32 v19) 33 (q7.1 1)) 34 v20
 (csel v20
 ((Zh (t22 0)).bind fun v23=>(Za 3 v23).bind fun v24=>(st false 1 v24 (.int .i64 2) q7.2.1).bind fun H25=>some ⟨.normal,put (put (put t22 35 (t22 0)) 36 v23) 37 v24,H25,q7.2.2+14⟩)
 (some ⟨.normal,t22,q7.2.1,q7.2.2+10⟩)
 ).bind fun(o21:Out)=>(Zd .plain .add (o21.t 8) (.int .i64 1)).bind fun v26=>some ⟨.normal,put (put (put o21.t 23 (o21.t 8)) 24 v26) 8 v26,o21.H,o21.n+3⟩)
 (some ⟨(.exit 0),put q7.1 22 v13,q7.2.1,q7.2.2⟩)
noncomputable def S157 (C:Zb)(L:Zc->Zc)(t:Tm)(H:Hp)(n:Nat):Option (Value × Hp × Nat) :=
 (L (S157L0 C L) (put t 8 (.int .i64 0)) H (n+1)).bind fun(o1:Out)=>(Zh (o1.t 0)).bind fun v27=>(Za 2 v27).bind fun v28=>(ld false 1 v28 o1.H).bind fun v29=>(Zh (o1.t 0)).bind fun v30=>(Za 1 v30).bind fun v31=>(ld false 1 v31 o1.H).bind fun v32=>(Zx false v32).bind fun v33=>(Zx false (o1.t 2)).bind fun v34=>(Xf [.string ⟨#[]⟩,.int .i64 0,.int .i64 0] [(0,1,o1.t 1),(1,1,v33),(2,1,v34)]).bind fun v35=>(Xx (o1.n+14) 3 1 [.string ⟨#[]⟩,.int .i64 0,.int .i64 0] [(0,3,v35)] o1.H).bind fun p36=>(app (o1.n+15) 3 32 v29 p36.1 p36.2).bind fun p37=>(Zh (o1.t 0)).bind fun v38=>(Za 2 v38).bind fun v39=>(st false 1 v39 p37.1 p37.2).bind fun H40=>(Xx (o1.n+22) 1 1 [nilS] [(0,1,o1.t 2)] H40).bind fun p41=>(C 167 [o1.t 0,o1.t 3,p41.1] p41.2 (o1.n+24)).bind fun q42=>(Xf [.int .i64 0,.int .i64 0,.int .i64 0,.string ⟨#[]⟩] [(0,1,.int .i64 8)]).bind fun v43=>(C 168 [o1.t 0,v43] q42.2.1 (q42.2.2+3)).bind fun q44=>some (.tuple ⟨[]⟩,q44.2.1,q44.2.2)
theorem s157 (C:Zb)(L:Zc->Zc)(t:Tm)(H:Hp)(n:Nat):Zq Tryz.prog C L Tryz.f157 t H n=S157 C L t H n:=by kernel_rfl
theorem c157 (args:List Value)(H:Hp)(n:Nat):Call Tryz.prog 157 args H n=S157 (Call Tryz.prog) Zm (Zp args) H n:=(Zg Tryz.func157 args H n).trans (s157 ..)
noncomputable def S158 (C:Zb)(L:Zc->Zc)(t:Tm)(H:Hp)(n:Nat):Option (Value × Hp × Nat) :=
 (Zh (t 0)).bind fun v1=>(Za 0 v1).bind fun v2=>(Za 0 v2).bind fun v3=>(ld false 1 v3 H).bind fun v4=>(Zo 5 v4 (t 1)).bind fun v5=>(ld true 5 v5 H).bind fun v6=>let H7:=H.set (n+10) (some (.row [.int .i64 0,.int .i64 0,.string ⟨#[]⟩,.int .i64 0,.int .i64 0] 0 true))
 (st true 5 (ptr (n+10) 0) v6 H7).bind fun H8=>(Za 2 (ptr (n+10) 0)).bind fun v9=>(ld false 1 v9 H8).bind fun v10=>(Za 0 (ptr (n+10) 0)).bind fun v11=>(ld false 1 v11 H8).bind fun v12=>(Zd .plain .eql v12 (.int .i64 4)).bind fun v13=>let t15:Tm:=put (put (put (put (put (put (put (put (put (put (put (put (put (put (put (put (put t 4 (.string ⟨#[]⟩)) 5 (.bool false)) 7 (t 0)) 8 v1) 9 v2) 10 v3) 11 v4) 12 (t 1)) 13 v5) 14 v6) 6 (ptr (n+10) 0)) 15 v9) 16 v10) 17 v11) 18 v12) 19 v13) 20 v13
 (gsel v13 true
 ((Za 2 (ptr (n+10) 0)).bind fun v16=>(ld false 1 v16 H8).bind fun v17=>(C 169 [v17] H8 (n+25)).bind fun q18=>ask (ld false 1 v9 q18.2.1=some v10) <|(un .not q18.1).bind fun v19=>some ⟨put (put (put (put t15 21 v16) 22 v17) 23 q18.1) 24 v19,q18.2.1,q18.2.2,[⟨7,false,1,v16,v17⟩,⟨3,false,1,v11,v12⟩,⟨1,false,1,v9,v10⟩],[(8,H8)]⟩)
 (some ⟨put (put (put (put t15 21 (.tuple #[])) 22 (.tuple #[])) 23 (.tuple #[])) 24 (.tuple #[]),H8,n+25,[⟨3,false,1,v11,v12⟩,⟨1,false,1,v9,v10⟩],[]⟩)
 ).bind fun(q14:R5)=>(Zl (q14.t 20) (q14.t 24) (.bool false)).bind fun v20=>Yr ([q14.t 16,v20].all notTup) <|some (.tuple ⟨[q14.t 16,v20]⟩,q14.H,q14.n)
theorem s158 (C:Zb)(L:Zc->Zc)(t:Tm)(H:Hp)(n:Nat):Zq Tryz.prog C L Tryz.f158 t H n=S158 C L t H n:=by kernel_rfl
theorem c158 (args:List Value)(H:Hp)(n:Nat):Call Tryz.prog 158 args H n=S158 (Call Tryz.prog) Zm (Zp args) H n:=(Zg Tryz.func158 args H n).trans (s158 ..)
noncomputable def S159L2 (C:Zb)(L:Zc->Zc):Zc:=fun t H n=>(Zd .plain .lss (t 10) (t 9)).bind fun v44=>csel v44
 ((Zo 1 (t 5) (t 10)).bind fun v45=>(ld false 1 v45 H).bind fun v46=>(Zo 1 (t 5) (t 9)).bind fun v47=>(ld false 1 v47 H).bind fun v48=>(Zd .plain .eql v46 v48).bind fun v49=>let t51:Tm:=put (put (put (put (put (put (put (put (put (put (put (put t 62 (t 10)) 63 (t 9)) 64 v44) 67 (t 5)) 68 (t 10)) 69 v45) 70 v46) 71 (t 5)) 72 (t 9)) 73 v47) 74 v48) 75 v49
 (csel v49
 ((Zh (t51 0)).bind fun v52=>(Za 3 v52).bind fun v53=>(st false 1 v53 (.int .i64 2) H).bind fun H54=>some ⟨.normal,put (put (put t51 76 (t51 0)) 77 v52) 78 v53,H54,n+16⟩)
 (some ⟨.normal,t51,H,n+12⟩)
 ).bind fun(o50:Out)=>(Zd .plain .add (o50.t 10) (.int .i64 1)).bind fun v55=>some ⟨.normal,put (put (put o50.t 65 (o50.t 10)) 66 v55) 10 v55,o50.H,o50.n+3⟩)
 (some ⟨(.exit 4),put (put (put t 62 (t 10)) 63 (t 9)) 64 v44,H,n+3⟩)
noncomputable def S159L1 (C:Zb)(L:Zc->Zc):Zc:=fun t H n=>(Zx false (t 5)).bind fun v34=>(Zd .plain .lss (t 9) v34).bind fun v35=>let t37:Tm:=put (put (put (put (put t 49 (t 9)) 50 (t 5)) 51 v34) 52 v35) 53 v35
 (gsel v35 true
 ((Zh (t37 0)).bind fun v38=>(Za 3 v38).bind fun v39=>(ld false 1 v39 H).bind fun v40=>(Zd .plain .eql v40 (.int .i64 0)).bind fun v41=>some (put (put (put (put (put t37 54 (t37 0)) 55 v38) 56 v39) 57 v40) 58 v41,H,n+11))
 (some (put (put (put (put (put t37 54 (.tuple #[])) 55 (.tuple #[])) 56 (.tuple #[])) 57 (.tuple #[])) 58 (.tuple #[]),H,n+11))
 ).bind fun(q36:R3)=>(Zl (q36.1 53) (q36.1 58) (.bool false)).bind fun v42=>csel v42
 ((L (S159L2 C L) (put (put q36.1 59 v42) 10 (.int .i64 0)) q36.2.1 (q36.2.2+1)).bind fun(o43:Out)=>(Zd .plain .add (o43.t 9) (.int .i64 1)).bind fun v56=>some ⟨.normal,put (put (put o43.t 60 (o43.t 9)) 61 v56) 9 v56,o43.H,o43.n+3⟩)
 (some ⟨(.exit 2),put q36.1 59 v42,q36.2.1,q36.2.2⟩)
noncomputable def S159L0 (C:Zb)(L:Zc->Zc):Zc:=fun t H n=>(Zx false (t 1)).bind fun v10=>(Zd .plain .lss (t 6) v10).bind fun v11=>let t13:Tm:=put (put (put (put (put t 18 (t 6)) 19 (t 1)) 20 v10) 21 v11) 22 v11
 (gsel v11 true
 ((Zh (t13 0)).bind fun v14=>(Za 3 v14).bind fun v15=>(ld false 1 v15 H).bind fun v16=>(Zd .plain .eql v16 (.int .i64 0)).bind fun v17=>some (put (put (put (put (put t13 23 (t13 0)) 24 v14) 25 v15) 26 v16) 27 v17,H,n+11))
 (some (put (put (put (put (put t13 23 (.tuple #[])) 24 (.tuple #[])) 25 (.tuple #[])) 26 (.tuple #[])) 27 (.tuple #[]),H,n+11))
 ).bind fun(q12:R3)=>(Zl (q12.1 22) (q12.1 27) (.bool false)).bind fun v18=>csel v18
 ((Zo 1 (q12.1 1) (q12.1 6)).bind fun v19=>(ld false 1 v19 q12.2.1).bind fun v20=>(C 158 [q12.1 0,v20] q12.2.1 (q12.2.2+11)).bind fun q21=>(ext 0 q21.1).bind fun v22=>(ext 1 q21.1).bind fun v23=>(un .not v23).bind fun v24=>let t26:Tm:=put (put (put (put (put (put (put (put (put (put (put (put (put (put q12.1 28 v18) 32 (q12.1 0)) 33 (q12.1 1)) 34 (q12.1 6)) 35 v19) 36 v20) 37 q21.1) 31 q21.1) 38 v22) 39 v23) 7 v22) 8 v23) 40 v23) 41 v24
 (csel v24
 ((Zh (t26 0)).bind fun v27=>(Za 3 v27).bind fun v28=>(st false 1 v28 (.int .i64 1) q21.2.1).bind fun H29=>some ⟨.normal,put (put (put t26 42 (t26 0)) 43 v27) 44 v28,H29,q21.2.2+6⟩)
 (some ⟨.normal,t26,q21.2.1,q21.2.2+2⟩)
 ).bind fun(o25:Out)=>(Xx (o25.n+2) 1 1 [.string ⟨#[]⟩] [(0,1,o25.t 7)] o25.H).bind fun p30=>(app (o25.n+3) 1 16 (o25.t 5) p30.1 p30.2).bind fun p31=>(Zd .plain .add (o25.t 6) (.int .i64 1)).bind fun v32=>some ⟨.normal,put (put (put (put (put (put (put (put o25.t 45 (o25.t 5)) 46 (o25.t 7)) 47 p30.1) 48 p31.1) 5 p31.1) 29 (o25.t 6)) 30 v32) 6 v32,p31.2,o25.n+8⟩)
 (some ⟨(.exit 0),put q12.1 28 v18,q12.2.1,q12.2.2⟩)
noncomputable def S159 (C:Zb)(L:Zc->Zc)(t:Tm)(H:Hp)(n:Nat):Option (Value × Hp × Nat) :=
 (Xx (n+1) 1 0 [.string ⟨#[]⟩] [] H).bind fun p1=>(Zx false (t 1)).bind fun v2=>(Zd .plain .gtr v2 (.int .i64 4)).bind fun v3=>let t5:Tm:=put (put (put (put (put (put t 4 nilS) 11 p1.1) 5 p1.1) 12 (t 1)) 13 v2) 14 v3
 (csel v3
 ((Zh (t5 0)).bind fun v6=>(Za 3 v6).bind fun v7=>(st false 1 v7 (.int .i64 1) p1.2).bind fun H8=>some ⟨.normal,put (put (put t5 15 (t5 0)) 16 v6) 17 v7,H8,n+10⟩)
 (some ⟨.normal,t5,p1.2,n+6⟩)
 ).bind fun(o4:Out)=>(L (S159L0 C L) (put o4.t 6 (.int .i64 0)) o4.H (o4.n+1)).bind fun(o9:Out)=>(L (S159L1 C L) (put o9.t 9 (.int .i64 0)) o9.H (o9.n+1)).bind fun(o33:Out)=>some (o33.t 5,o33.H,o33.n+2)
theorem s159 (C:Zb)(L:Zc->Zc)(t:Tm)(H:Hp)(n:Nat):Zq Tryz.prog C L Tryz.f159 t H n=S159 C L t H n:=by kernel_rfl
theorem c159 (args:List Value)(H:Hp)(n:Nat):Call Tryz.prog 159 args H n=S159 (Call Tryz.prog) Zm (Zp args) H n:=(Zg Tryz.func159 args H n).trans (s159 ..)
noncomputable def S160 (C:Zb)(L:Zc->Zc)(t:Tm)(H:Hp)(n:Nat):Option (Value × Hp × Nat) :=
 (Zs (t 1)).bind fun c2=>let H1:=H.set (n) (some (.row c2 0 true))
 (Zs (t 2)).bind fun c4=>let H3:=H1.set (n+1) (some (.row c4 0 true))
 let H5:=H3.set (n+2) (some (.row [.int .i64 0,.int .i64 0,.string ⟨#[]⟩,.int .i64 0,.int .i64 0] 0 true))
 (Za 0 (ptr (n) 0)).bind fun v6=>(ld false 1 v6 H5).bind fun v7=>(Zd .plain .neq v7 (.int .i64 3)).bind fun v8=>let t10:Tm:=put (put (put (put (put (put (put (put t 4 (ptr (n) 0)) 5 (ptr (n+1) 0)) 6 (ptr (n+2) 0)) 7 (.int .i64 0)) 9 v6) 10 v7) 11 v8) 12 v8
 (gsel v8 false
 ((Za 0 (ptr (n+1) 0)).bind fun v11=>(ld false 1 v11 H5).bind fun v12=>(Zd .plain .neq v12 (.int .i64 3)).bind fun v13=>some (put (put (put t10 13 v11) 14 v12) 15 v13,H5,n+12))
 (some (put (put (put t10 13 (.tuple #[])) 14 (.tuple #[])) 15 (.tuple #[]),H5,n+12))
 ).bind fun(q9:R3)=>(Zl (q9.1 12) (.bool true) (q9.1 15)).bind fun v14=>csel v14
 ((Xf [.int .i64 0,.int .i64 0,.string ⟨#[]⟩,.int .i64 0,.int .i64 0] []).bind fun v15=>(st true 5 (q9.1 6) v15 q9.2.1).bind fun H16=>(ld true 5 (q9.1 6) H16).bind fun v17=>Yr ([v17,.int .i64 3].all notTup) <|some (.tuple ⟨[v17,.int .i64 3]⟩,H16,q9.2.2+3))
 ((Za 1 (q9.1 4)).bind fun v18=>(ld false 1 v18 q9.2.1).bind fun v19=>(Za 1 (q9.1 5)).bind fun v20=>(ld false 1 v20 q9.2.1).bind fun v21=>(Zd .plain .add v19 v21).bind fun v22=>(Zd .plain .eql (q9.1 0) (.int .i64 2)).bind fun v23=>let t25:Tm:=put (put (put (put (put (put (put (put (put (put q9.1 16 v14) 18 v18) 19 v19) 20 v20) 21 v21) 22 v22) 8 v22) 23 (q9.1 0)) 25 v23) 24 v23
 (csel v23
 ((Za 1 (t25 4)).bind fun v26=>(ld false 1 v26 q9.2.1).bind fun v27=>(Za 1 (t25 5)).bind fun v28=>(ld false 1 v28 q9.2.1).bind fun v29=>(Zd .plain .sub v27 v29).bind fun v30=>some ⟨.normal,put (put (put (put (put (put t25 26 v26) 27 v27) 28 v28) 29 v29) 30 v30) 8 v30,q9.2.1,q9.2.2+15⟩)
 ((Zd .plain .eql (q9.1 0) (.int .i64 3)).bind fun v31=>let t33:Tm:=put (put t25 32 v31) 31 v31
 (csel v31
 ((Za 1 (t33 4)).bind fun v34=>(ld false 1 v34 q9.2.1).bind fun v35=>(Za 1 (t33 5)).bind fun v36=>(ld false 1 v36 q9.2.1).bind fun v37=>(Zd .plain .mul v35 v37).bind fun v38=>some ⟨.normal,put (put (put (put (put (put t33 33 v34) 34 v35) 35 v36) 36 v37) 37 v38) 8 v38,q9.2.1,q9.2.2+17⟩)
 ((Zd .plain .eql (q9.1 0) (.int .i64 4)).bind fun v39=>csel v39
 ((Za 1 (t33 4)).bind fun v40=>(ld false 1 v40 q9.2.1).bind fun v41=>(Za 1 (t33 5)).bind fun v42=>(ld false 1 v42 q9.2.1).bind fun v43=>(Zd .plain .lss v41 v43).bind fun v44=>(C 161 [v44] q9.2.1 (q9.2.2+21)).bind fun q45=>(st true 5 (t33 6) q45.1 q45.2.1).bind fun H46=>some ⟨.ret,put (put (put (put (put (put (put (put (put t33 39 v39) 38 v39) 40 v40) 41 v41) 42 v42) 43 v43) 44 v44) 45 q45.1) 7 (.int .i64 0),H46,q45.2.2⟩)
 ((Zd .plain .eql (q9.1 0) (.int .i64 5)).bind fun v47=>csel v47
 ((Za 1 (t33 4)).bind fun v48=>(ld false 1 v48 q9.2.1).bind fun v49=>(Za 1 (t33 5)).bind fun v50=>(ld false 1 v50 q9.2.1).bind fun v51=>(Zd .plain .eql v49 v51).bind fun v52=>(C 161 [v52] q9.2.1 (q9.2.2+23)).bind fun q53=>(st true 5 (t33 6) q53.1 q53.2.1).bind fun H54=>some ⟨.ret,put (put (put (put (put (put (put (put (put (put (put t33 39 v39) 38 v39) 47 v47) 46 v47) 48 v48) 49 v49) 50 v50) 51 v51) 52 v52) 53 q53.1) 7 (.int .i64 0),H54,q53.2.2⟩)
 (some ⟨.normal,put (put (put (put t33 39 v39) 38 v39) 47 v47) 46 v47,q9.2.1,q9.2.2+15⟩)))
 ).bind fun(o32:Out)=>some o32)
 ).bind fun(o24:Out)=>let o55:=outOf 0 o24
 Xe o55
 ((C 47 [o55.t 8,.int .i64 (-1000000000),.int .i64 1000000000] o55.H (o55.n+3)).bind fun q56=>(un .not q56.1).bind fun v57=>csel v57
 ((Xf [.int .i64 0,.int .i64 0,.string ⟨#[]⟩,.int .i64 0,.int .i64 0] []).bind fun v58=>(st true 5 (o55.t 6) v58 q56.2.1).bind fun H59=>(ld true 5 (o55.t 6) H59).bind fun v60=>Yr ([v60,.int .i64 4].all notTup) <|some (.tuple ⟨[v60,.int .i64 4]⟩,H59,q56.2.2+3))
 ((Xf [.int .i64 0,.int .i64 0,.string ⟨#[]⟩,.int .i64 0,.int .i64 0] [(0,1,.int .i64 3),(1,1,o55.t 8)]).bind fun v61=>(st true 5 (o55.t 6) v61 q56.2.1).bind fun H62=>(ld true 5 (o55.t 6) H62).bind fun v63=>Yr ([v63,.int .i64 0].all notTup) <|some (.tuple ⟨[v63,.int .i64 0]⟩,H62,q56.2.2+4)))
 (Vs o55.e
 ((ld true 5 (o55.t 6) o55.H).bind fun v64=>Yr ([v64,o55.t 7].all notTup) <|some (.tuple ⟨[v64,o55.t 7]⟩,o55.H,o55.n))))
theorem s160 (C:Zb)(L:Zc->Zc)(t:Tm)(H:Hp)(n:Nat):Zq Tryz.prog C L Tryz.f160 t H n=S160 C L t H n:=by kernel_rfl
theorem c160 (args:List Value)(H:Hp)(n:Nat):Call Tryz.prog 160 args H n=S160 (Call Tryz.prog) Zm (Zp args) H n:=(Zg Tryz.func160 args H n).trans (s160 ..)
noncomputable def S161 (C:Zb)(L:Zc->Zc)(t:Tm)(H:Hp)(n:Nat):Option (Value × Hp × Nat) :=
 let H1:=H.set (n) (some (.row [.int .i64 0,.int .i64 0,.string ⟨#[]⟩,.int .i64 0,.int .i64 0] 0 true))
 csel (t 0)
 ((Xf [.int .i64 0,.int .i64 0,.string ⟨#[]⟩,.int .i64 0,.int .i64 0] [(0,1,.int .i64 2),(1,1,.int .i64 1)]).bind fun v2=>(st true 5 (ptr (n) 0) v2 H1).bind fun H3=>(ld true 5 (ptr (n) 0) H3).bind fun v4=>some (v4,H3,n+4))
 ((Xf [.int .i64 0,.int .i64 0,.string ⟨#[]⟩,.int .i64 0,.int .i64 0] [(0,1,.int .i64 2)]).bind fun v5=>(st true 5 (ptr (n) 0) v5 H1).bind fun H6=>(ld true 5 (ptr (n) 0) H6).bind fun v7=>some (v7,H6,n+4))
theorem s161 (C:Zb)(L:Zc->Zc)(t:Tm)(H:Hp)(n:Nat):Zq Tryz.prog C L Tryz.f161 t H n=S161 C L t H n:=by kernel_rfl
theorem c161 (args:List Value)(H:Hp)(n:Nat):Call Tryz.prog 161 args H n=S161 (Call Tryz.prog) Zm (Zp args) H n:=(Zg Tryz.func161 args H n).trans (s161 ..)
noncomputable def S162L1 (C:Zb)(L:Zc->Zc):Zc:=fun t H n=>(Zd .plain .lss (t 8) (t 5)).bind fun v46=>csel v46
 ((Zo 5 (t 4) (t 8)).bind fun v47=>(ld true 5 v47 H).bind fun v48=>(ld true 5 (t 6) H).bind fun v49=>(Zd (.agg [(0,(.int .i64)),(1,(.int .i64)),(2,.string),(3,(.int .i64)),(4,(.int .i64))]) .eql v48 v49).bind fun v50=>csel v50
 (some ⟨(.exit 3),put (put (put (put (put (put (put (put (put (put (put t 49 (t 8)) 50 (t 5)) 51 v46) 54 (t 4)) 55 (t 8)) 56 v47) 57 v48) 58 v49) 59 v50) 60 (t 8)) 7 (t 8),H,n+11⟩)
 ((Zd .plain .add (t 8) (.int .i64 1)).bind fun v51=>some ⟨.normal,put (put (put (put (put (put (put (put (put (put (put (put t 49 (t 8)) 50 (t 5)) 51 v46) 54 (t 4)) 55 (t 8)) 56 v47) 57 v48) 58 v49) 59 v50) 52 (t 8)) 53 v51) 8 v51,H,n+12⟩))
 (some ⟨(.exit 3),put (put (put t 49 (t 8)) 50 (t 5)) 51 v46,H,n+3⟩)
noncomputable def S162L0 (C:Zb)(L:Zc->Zc):Zc:=fun t H n=>(Za 0 (t 1)).bind fun v6=>(ld false 1 v6 H).bind fun v7=>(Zx false v7).bind fun v8=>(Zd .plain .lss (t 5) v8).bind fun v9=>csel v9
 ((Za 0 (t 1)).bind fun v10=>(ld false 1 v10 H).bind fun v11=>(Zo 5 v11 (t 5)).bind fun v12=>(ld true 5 v12 H).bind fun v13=>let H14:=H.set (n+10) (some (.row [.int .i64 0,.int .i64 0,.string ⟨#[]⟩,.int .i64 0,.int .i64 0] 0 true))
 (st true 5 (ptr (n+10) 0) v13 H14).bind fun H15=>(Za 0 (ptr (n+10) 0)).bind fun v16=>(ld false 1 v16 H15).bind fun v17=>(Zd .plain .eql v17 (.int .i64 5)).bind fun v18=>let t20:Tm:=put (put (put (put (put (put (put (put (put (put (put (put (put (put (put t 11 (t 5)) 12 v6) 13 v7) 14 v8) 15 v9) 18 v10) 19 v11) 20 (t 5)) 21 v12) 22 v13) 6 (ptr (n+10) 0)) 23 v16) 24 v17) 26 v18) 25 v18
 (csel v18
 ((Za 3 (ptr (n+10) 0)).bind fun v21=>(ld false 1 v21 H15).bind fun v22=>(Zo 1 (t20 3) v22).bind fun v23=>(ld false 1 v23 H15).bind fun v24=>(Za 3 (ptr (n+10) 0)).bind fun v25=>(st false 1 v25 v24 H15).bind fun H26=>(Za 4 (ptr (n+10) 0)).bind fun v27=>(ld false 1 v27 H26).bind fun v28=>(Zo 1 (t20 3) v28).bind fun v29=>(ld false 1 v29 H26).bind fun v30=>(Za 4 (ptr (n+10) 0)).bind fun v31=>(st false 1 v31 v30 H26).bind fun H32=>some ⟨.normal,put (put (put (put (put (put (put (put (put (put (put (put t20 27 (t20 3)) 28 v21) 29 v22) 30 v23) 31 v24) 32 v25) 33 (t20 3)) 34 v27) 35 v28) 36 v29) 37 v30) 38 v31,H32,n+30⟩)
 ((Zd .plain .eql v17 (.int .i64 6)).bind fun v33=>let t35:Tm:=put (put t20 40 v33) 39 v33
 (csel v33
 (some ⟨.normal,t35,H15,n+18⟩)
 ((Zd .plain .eql v17 (.int .i64 7)).bind fun v36=>some ⟨.normal,put (put t35 41 v36) 39 v36,H15,n+20⟩)
 ).bind fun(o34:Out)=>(csel (o34.t 39)
 ((Za 3 (o34.t 6)).bind fun v39=>(ld false 1 v39 o34.H).bind fun v40=>(Zo 1 (o34.t 3) v40).bind fun v41=>(ld false 1 v41 o34.H).bind fun v42=>(Za 3 (o34.t 6)).bind fun v43=>(st false 1 v43 v42 o34.H).bind fun H44=>some ⟨.normal,put (put (put (put (put (put o34.t 42 (o34.t 3)) 43 v39) 44 v40) 45 v41) 46 v42) 47 v43,H44,o34.n+7⟩)
 (some ⟨.normal,o34.t,o34.H,o34.n⟩)
 ).bind fun(o37:Out)=>some ⟨.normal,o37.t,o37.H,o37.n⟩)
 ).bind fun(o19:Out)=>(L (S162L1 C L) (put (put (put o19.t 48 (o19.t 5)) 7 (o19.t 5)) 8 (.int .i64 0)) o19.H (o19.n+3)).bind fun(o45:Out)=>(ld true 5 (o45.t 6) o45.H).bind fun v52=>(Xx (o45.n+2) 5 1 [.int .i64 0,.int .i64 0,.string ⟨#[]⟩,.int .i64 0,.int .i64 0] [(0,5,v52)] o45.H).bind fun p53=>(app (o45.n+3) 5 48 (o45.t 4) p53.1 p53.2).bind fun p54=>(Xx (o45.n+7) 1 1 [.int .i64 0] [(0,1,o45.t 7)] p54.2).bind fun p55=>(app (o45.n+8) 1 8 (o45.t 3) p55.1 p55.2).bind fun p56=>(Zd .plain .add (o45.t 5) (.int .i64 1)).bind fun v57=>some ⟨.normal,put (put (put (put (put (put (put (put (put (put (put (put (put o45.t 61 (o45.t 4)) 62 v52) 63 p53.1) 64 p54.1) 4 p54.1) 65 (o45.t 3)) 66 (o45.t 7)) 67 p55.1) 68 p56.1) 3 p56.1) 16 (o45.t 5)) 17 v57) 5 v57,p56.2,o45.n+13⟩)
 (some ⟨(.exit 0),put (put (put (put (put t 11 (t 5)) 12 v6) 13 v7) 14 v8) 15 v9,H,n+5⟩)
noncomputable def S162 (C:Zb)(L:Zc->Zc)(t:Tm)(H:Hp)(n:Nat):Option (Value × Hp × Nat) :=
 (Zs (t 0)).bind fun c2=>let H1:=H.set (n) (some (.row c2 0 true))
 (Xx (n+2) 1 0 [.int .i64 0] [] H1).bind fun p3=>(Xx (n+4) 5 0 [.int .i64 0,.int .i64 0,.string ⟨#[]⟩,.int .i64 0,.int .i64 0] [] p3.2).bind fun p4=>(L (S162L0 C L) (put (put (put (put (put (put (put t 1 (ptr (n) 0)) 2 nilS) 9 p3.1) 3 p3.1) 10 p4.1) 4 p4.1) 5 (.int .i64 0)) p4.2 (n+7)).bind fun(o5:Out)=>some (o5.t 3,o5.H,o5.n+2)
theorem s162 (C:Zb)(L:Zc->Zc)(t:Tm)(H:Hp)(n:Nat):Zq Tryz.prog C L Tryz.f162 t H n=S162 C L t H n:=by kernel_rfl
theorem c162 (args:List Value)(H:Hp)(n:Nat):Call Tryz.prog 162 args H n=S162 (Call Tryz.prog) Zm (Zp args) H n:=(Zg Tryz.func162 args H n).trans (s162 ..)
noncomputable def S163 (C:Zb)(L:Zc->Zc)(t:Tm)(H:Hp)(n:Nat):Option (Value × Hp × Nat) :=
 let H1:=H.set (n) (some (.row [.int .i64 0,.int .i64 0,.string ⟨#[]⟩,.int .i64 0,.int .i64 0] 0 true))
 csel (t 0)
 ((Xf [.int .i64 0,.int .i64 0,.string ⟨#[]⟩,.int .i64 0,.int .i64 0] [(0,1,.int .i64 2),(1,1,.int .i64 1)]).bind fun v2=>(st true 5 (ptr (n) 0) v2 H1).bind fun H3=>(ld true 5 (ptr (n) 0) H3).bind fun v4=>some (v4,H3,n+4))
 ((Xf [.int .i64 0,.int .i64 0,.string ⟨#[]⟩,.int .i64 0,.int .i64 0] [(0,1,.int .i64 2)]).bind fun v5=>(st true 5 (ptr (n) 0) v5 H1).bind fun H6=>(ld true 5 (ptr (n) 0) H6).bind fun v7=>some (v7,H6,n+4))
theorem s163 (C:Zb)(L:Zc->Zc)(t:Tm)(H:Hp)(n:Nat):Zq Tryz.prog C L Tryz.f163 t H n=S163 C L t H n:=by kernel_rfl
theorem c163 (args:List Value)(H:Hp)(n:Nat):Call Tryz.prog 163 args H n=S163 (Call Tryz.prog) Zm (Zp args) H n:=(Zg Tryz.func163 args H n).trans (s163 ..)
noncomputable def S164 (C:Zb)(L:Zc->Zc)(t:Tm)(H:Hp)(n:Nat):Option (Value × Hp × Nat) :=
 (Zs (t 0)).bind fun c2=>let H1:=H.set (n) (some (.row c2 0 true))
 (ld true 1 (ptr (n) 0) H1).bind fun v3=>(C 40 [v3] H1 (n+17)).bind fun q4=>(un .not q4.1).bind fun v5=>let t7:Tm:=put (put (put (put (put (put t 3 (ptr (n) 0)) 6 (.bool false)) 8 v3) 9 q4.1) 10 v5) 11 v5
 (gsel v5 false
 ((ld true 1 (ptr (n) 0) q4.2.1).bind fun v8=>(C 41 [v8,t7 1] q4.2.1 (q4.2.2)).bind fun q9=>(un .not q9.1).bind fun v10=>some (put (put (put (put t7 12 v8) 13 (t7 1)) 14 q9.1) 15 v10,q9.2.1,q9.2.2))
 (some (put (put (put (put t7 12 (.tuple #[])) 13 (.tuple #[])) 14 (.tuple #[])) 15 (.tuple #[]),q4.2.1,q4.2.2))
 ).bind fun(q6:R3)=>(Zl (q6.1 11) (.bool true) (q6.1 15)).bind fun v11=>let t13:Tm:=put (put q6.1 16 v11) 17 v11
 (gsel v11 false
 ((ld true 1 (t13 3) q6.2.1).bind fun v14=>(C 41 [v14,t13 2] q6.2.1 (q6.2.2)).bind fun q15=>(un .not q15.1).bind fun v16=>some (put (put (put (put t13 18 v14) 19 (t13 2)) 20 q15.1) 21 v16,q15.2.1,q15.2.2))
 (some (put (put (put (put t13 18 (.tuple #[])) 19 (.tuple #[])) 20 (.tuple #[])) 21 (.tuple #[]),q6.2.1,q6.2.2))
 ).bind fun(q12:R3)=>(Zl (q12.1 17) (.bool true) (q12.1 21)).bind fun v17=>csel v17
 (some (.bool false,q12.2.1,q12.2.2+1))
 ((ld true 1 (q12.1 3) q12.2.1).bind fun v18=>(C 170 [v18] q12.2.1 (q12.2.2+3)).bind fun q19=>(Zo 1 q19.1 (q12.1 1)).bind fun v20=>(ld false 1 v20 q19.2.1).bind fun v21=>(Zo 1 q19.1 (q12.1 2)).bind fun v22=>(ld false 1 v22 q19.2.1).bind fun v23=>(Zd .plain .eql v21 v23).bind fun v24=>some (v24,q19.2.1,q19.2.2+10))
theorem s164 (C:Zb)(L:Zc->Zc)(t:Tm)(H:Hp)(n:Nat):Zq Tryz.prog C L Tryz.f164 t H n=S164 C L t H n:=by kernel_rfl
theorem c164 (args:List Value)(H:Hp)(n:Nat):Call Tryz.prog 164 args H n=S164 (Call Tryz.prog) Zm (Zp args) H n:=(Zg Tryz.func164 args H n).trans (s164 ..)
noncomputable def S165 (C:Zb)(L:Zc->Zc)(t:Tm)(H:Hp)(n:Nat):Option (Value × Hp × Nat) :=
 let H1:=H.set (n) (some (.row [.int .i64 0,.int .i64 0,.string ⟨#[]⟩,.int .i64 0,.int .i64 0] 0 true))
 (Zd .plain .eql (t 0) (.int .i64 1)).bind fun v2=>csel v2
 ((Zd .plain .add (t 1) (t 2)).bind fun v3=>(Xf [.int .i64 0,.int .i64 0,.string ⟨#[]⟩,.int .i64 0,.int .i64 0] [(0,1,.int .i64 3),(1,1,v3)]).bind fun v4=>(st true 5 (ptr (n) 0) v4 H1).bind fun H5=>(ld true 5 (ptr (n) 0) H5).bind fun v6=>some (v6,H5,n+9))
 ((Zd .plain .eql (t 0) (.int .i64 2)).bind fun v7=>csel v7
 ((Zd .plain .sub (t 1) (t 2)).bind fun v8=>(Xf [.int .i64 0,.int .i64 0,.string ⟨#[]⟩,.int .i64 0,.int .i64 0] [(0,1,.int .i64 3),(1,1,v8)]).bind fun v9=>(st true 5 (ptr (n) 0) v9 H1).bind fun H10=>(ld true 5 (ptr (n) 0) H10).bind fun v11=>some (v11,H10,n+11))
 ((Zd .plain .eql (t 0) (.int .i64 3)).bind fun v12=>csel v12
 ((Zd .plain .mul (t 1) (t 2)).bind fun v13=>(Xf [.int .i64 0,.int .i64 0,.string ⟨#[]⟩,.int .i64 0,.int .i64 0] [(0,1,.int .i64 3),(1,1,v13)]).bind fun v14=>(st true 5 (ptr (n) 0) v14 H1).bind fun H15=>(ld true 5 (ptr (n) 0) H15).bind fun v16=>some (v16,H15,n+13))
 ((Zd .plain .eql (t 0) (.int .i64 4)).bind fun v17=>csel v17
 ((Zd .plain .lss (t 1) (t 2)).bind fun v18=>(C 163 [v18] H1 (n+15)).bind fun q19=>(st true 5 (ptr (n) 0) q19.1 q19.2.1).bind fun H20=>(ld true 5 (ptr (n) 0) H20).bind fun v21=>some (v21,H20,q19.2.2))
 ((Zd .plain .eql (t 1) (t 2)).bind fun v22=>(C 163 [v22] H1 (n+15)).bind fun q23=>(st true 5 (ptr (n) 0) q23.1 q23.2.1).bind fun H24=>(ld true 5 (ptr (n) 0) H24).bind fun v25=>some (v25,H24,q23.2.2)))))
theorem s165 (C:Zb)(L:Zc->Zc)(t:Tm)(H:Hp)(n:Nat):Zq Tryz.prog C L Tryz.f165 t H n=S165 C L t H n:=by kernel_rfl
theorem c165 (args:List Value)(H:Hp)(n:Nat):Call Tryz.prog 165 args H n=S165 (Call Tryz.prog) Zm (Zp args) H n:=(Zg Tryz.func165 args H n).trans (s165 ..)
noncomputable def S166L0 (C:Zb)(L:Zc->Zc):Zc:=fun t H n=>(Zd .plain .gtr (t 0) (.int .i64 0)).bind fun v7=>csel v7
 ((Zd .plain .rem (t 0) (.int .i64 10)).bind fun v8=>(Zd .plain .add (.int .i64 48) v8).bind fun v9=>(conv (.toInt .u8) (n+5) v9 H).bind fun p10=>(Xx (n+6) 1 1 [.int .u8 0] [(0,1,p10.1)] p10.2).bind fun p11=>(conv .bytesToStr (n+7) p11.1 p11.2).bind fun p12=>(Zd .plain .add p12.1 (t 3)).bind fun v13=>(Zd .plain .quo (t 0) (.int .i64 10)).bind fun v14=>some ⟨.normal,put (put (put (put (put (put (put (put (put (put (put (put (put (put t 12 (t 0)) 13 v7) 14 (t 0)) 15 v8) 16 v9) 17 p10.1) 18 p11.1) 19 p12.1) 20 (t 3)) 21 v13) 3 v13) 22 (t 0)) 23 v14) 0 v14,p12.2,n+14⟩)
 (some ⟨(.exit 0),put (put t 12 (t 0)) 13 v7,H,n+2⟩)
noncomputable def S166 (C:Zb)(L:Zc->Zc)(t:Tm)(H:Hp)(n:Nat):Option (Value × Hp × Nat) :=
 (Zd .plain .lss (t 0) (.int .i64 0)).bind fun v1=>csel v1
 ((Zd .plain .sub (.int .i64 0) (t 0)).bind fun v2=>(C 166 [v2] H (n+8)).bind fun q3=>(Zd .plain .add (.string ⟨#[45]⟩) q3.1).bind fun v4=>some (v4,q3.2.1,q3.2.2))
 ((Zd .plain .eql (t 0) (.int .i64 0)).bind fun v5=>csel v5
 (some (.string ⟨#[48]⟩,H,n+6))
 ((L (S166L0 C L) (put (put (put (put (put (put t 2 (.string ⟨#[]⟩)) 4 (t 0)) 5 v1) 10 (t 0)) 11 v5) 3 (.string ⟨#[]⟩)) H (n+6)).bind fun(o6:Out)=>some (o6.t 3,o6.H,o6.n+2)))
theorem s166 (C:Zb)(L:Zc->Zc)(t:Tm)(H:Hp)(n:Nat):Zq Tryz.prog C L Tryz.f166 t H n=S166 C L t H n:=by kernel_rfl
theorem c166 (args:List Value)(H:Hp)(n:Nat):Call Tryz.prog 166 args H n=S166 (Call Tryz.prog) Zm (Zp args) H n:=(Zg Tryz.func166 args H n).trans (s166 ..)
noncomputable def S167L0 (C:Zb)(L:Zc->Zc):Zc:=fun t H n=>(Zx false (t 1)).bind fun v2=>(Zd .plain .lss (t 6) v2).bind fun v3=>let t5:Tm:=put (put (put (put (put t 7 (t 6)) 8 (t 1)) 9 v2) 10 v3) 11 v3
 (gsel v3 true
 ((Zh (t5 0)).bind fun v6=>(Za 3 v6).bind fun v7=>(ld false 1 v7 H).bind fun v8=>(Zd .plain .eql v8 (.int .i64 0)).bind fun v9=>some (put (put (put (put (put t5 12 (t5 0)) 13 v6) 14 v7) 15 v8) 16 v9,H,n+11))
 (some (put (put (put (put (put t5 12 (.tuple #[])) 13 (.tuple #[])) 14 (.tuple #[])) 15 (.tuple #[])) 16 (.tuple #[]),H,n+11))
 ).bind fun(q4:R3)=>(Zl (q4.1 11) (q4.1 16) (.bool false)).bind fun v10=>csel v10
 ((Zd .plain .gtr (q4.1 6) (.int .i64 0)).bind fun v11=>let t13:Tm:=put (put (put q4.1 17 v10) 20 (q4.1 6)) 21 v11
 (csel v11
 ((Xf [.int .i64 0,.int .i64 0,.int .i64 0,.string ⟨#[]⟩] [(0,1,.int .i64 9)]).bind fun v14=>(C 168 [t13 0,v14] q4.2.1 (q4.2.2+5)).bind fun q15=>some ⟨.normal,put (put (put t13 22 (t13 0)) 23 v14) 24 q15.1,q15.2.1,q15.2.2⟩)
 (some ⟨.normal,t13,q4.2.1,q4.2.2+2⟩)
 ).bind fun(o12:Out)=>(Zo 1 (o12.t 1) (o12.t 6)).bind fun v16=>(ld false 1 v16 o12.H).bind fun v17=>(C 171 [o12.t 0,v17,o12.t 2] o12.H (o12.n+7)).bind fun q18=>(Zd .plain .add (o12.t 6) (.int .i64 1)).bind fun v19=>some ⟨.normal,put (put (put (put (put (put (put (put (put (put o12.t 25 (o12.t 0)) 26 (o12.t 1)) 27 (o12.t 6)) 28 v16) 29 v17) 30 (o12.t 2)) 31 q18.1) 18 (o12.t 6)) 19 v19) 6 v19,q18.2.1,q18.2.2+3⟩)
 (some ⟨(.exit 0),put q4.1 17 v10,q4.2.1,q4.2.2⟩)
noncomputable def S167 (C:Zb)(L:Zc->Zc)(t:Tm)(H:Hp)(n:Nat):Option (Value × Hp × Nat) :=
 (L (S167L0 C L) (put t 6 (.int .i64 0)) H (n+1)).bind fun(o1:Out)=>some (.tuple ⟨[]⟩,o1.H,o1.n)
theorem s167 (C:Zb)(L:Zc->Zc)(t:Tm)(H:Hp)(n:Nat):Zq Tryz.prog C L Tryz.f167 t H n=S167 C L t H n:=by kernel_rfl
theorem c167 (args:List Value)(H:Hp)(n:Nat):Call Tryz.prog 167 args H n=S167 (Call Tryz.prog) Zm (Zp args) H n:=(Zg Tryz.func167 args H n).trans (s167 ..)
noncomputable def S168 (C:Zb)(L:Zc->Zc)(t:Tm)(H:Hp)(n:Nat):Option (Value × Hp × Nat) :=
 (Zs (t 1)).bind fun c2=>let H1:=H.set (n) (some (.row c2 0 true))
 (Zh (t 0)).bind fun v3=>(Za 3 v3).bind fun v4=>(ld false 1 v4 H1).bind fun v5=>(Zd .plain .eql v5 (.int .i64 0)).bind fun v6=>let t8:Tm:=put (put (put (put (put (put (put (put t 3 (ptr (n) 0)) 4 (.int .i64 0)) 5 (t 0)) 6 v3) 7 v4) 8 v5) 9 v6) 10 v6
 (gsel v6 true
 ((Zh (t8 0)).bind fun v9=>(Za 1 v9).bind fun v10=>(ld false 1 v10 H1).bind fun v11=>(Zx false v11).bind fun v12=>(Zd .plain .eql v12 (.int .i64 400)).bind fun v13=>some (put (put (put (put (put (put t8 11 (t8 0)) 12 v9) 13 v10) 14 v11) 15 v12) 16 v13,H1,n+15))
 (some (put (put (put (put (put (put t8 11 (.tuple #[])) 12 (.tuple #[])) 13 (.tuple #[])) 14 (.tuple #[])) 15 (.tuple #[])) 16 (.tuple #[]),H1,n+15))
 ).bind fun(q7:R3)=>(Zl (q7.1 10) (q7.1 16) (.bool false)).bind fun v14=>let t16:Tm:=put q7.1 17 v14
 (csel v14
 ((Zh (t16 0)).bind fun v17=>(Za 3 v17).bind fun v18=>(st false 1 v18 (.int .i64 3) q7.2.1).bind fun H19=>some ⟨.normal,put (put (put t16 18 (t16 0)) 19 v17) 20 v18,H19,q7.2.2+4⟩)
 (some ⟨.normal,t16,q7.2.1,q7.2.2⟩)
 ).bind fun(o15:Out)=>(Zh (o15.t 0)).bind fun v20=>(Za 3 v20).bind fun v21=>(ld false 1 v21 o15.H).bind fun v22=>(Zd .plain .neq v22 (.int .i64 0)).bind fun v23=>csel v23
 (some (.int .i64 0,o15.H,o15.n+6))
 ((Zh (o15.t 0)).bind fun v24=>(Za 1 v24).bind fun v25=>(ld false 1 v25 o15.H).bind fun v26=>(ld true 4 (o15.t 3) o15.H).bind fun v27=>(Xx (o15.n+11) 4 1 [.int .i64 0,.int .i64 0,.int .i64 0,.string ⟨#[]⟩] [(0,4,v27)] o15.H).bind fun p28=>(app (o15.n+12) 4 40 v26 p28.1 p28.2).bind fun p29=>(Zh (o15.t 0)).bind fun v30=>(Za 1 v30).bind fun v31=>(st false 1 v31 p29.1 p29.2).bind fun H32=>(Zh (o15.t 0)).bind fun v33=>(Za 1 v33).bind fun v34=>(ld false 1 v34 H32).bind fun v35=>(Zx false v35).bind fun v36=>(Zd .plain .sub v36 (.int .i64 1)).bind fun v37=>some (v37,H32,o15.n+23))
theorem s168 (C:Zb)(L:Zc->Zc)(t:Tm)(H:Hp)(n:Nat):Zq Tryz.prog C L Tryz.f168 t H n=S168 C L t H n:=by kernel_rfl
theorem c168 (args:List Value)(H:Hp)(n:Nat):Call Tryz.prog 168 args H n=S168 (Call Tryz.prog) Zm (Zp args) H n:=(Zg Tryz.func168 args H n).trans (s168 ..)
noncomputable def S169 (C:Zb)(L:Zc->Zc)(t:Tm)(H:Hp)(n:Nat):Option (Value × Hp × Nat) :=
 (Zd .plain .eql (t 0) (.string ⟨#[113,117,111,116,101]⟩)).bind fun v1=>let t3:Tm:=put (put (put (put t 2 (.bool false)) 3 (t 0)) 4 v1) 5 v1
 (gsel v1 false
 ((Zd .plain .eql (t3 0) (.string ⟨#[105,102]⟩)).bind fun v4=>some (put (put t3 6 (t3 0)) 7 v4,H,n+24))
 (some (put (put t3 6 (.tuple #[])) 7 (.tuple #[]),H,n+24))
 ).bind fun(q2:R3)=>(Zl (q2.1 5) (.bool true) (q2.1 7)).bind fun v5=>let t7:Tm:=put (put q2.1 8 v5) 9 v5
 (gsel v5 false
 ((Zd .plain .eql (t7 0) (.string ⟨#[102,110]⟩)).bind fun v8=>some (put (put t7 10 (t7 0)) 11 v8,q2.2.1,q2.2.2))
 (some (put (put t7 10 (.tuple #[])) 11 (.tuple #[]),q2.2.1,q2.2.2))
 ).bind fun(q6:R3)=>(Zl (q6.1 9) (.bool true) (q6.1 11)).bind fun v9=>let t11:Tm:=put (put q6.1 12 v9) 13 v9
 (gsel v9 false
 ((Zd .plain .eql (t11 0) (.string ⟨#[100,111]⟩)).bind fun v12=>some (put (put t11 14 (t11 0)) 15 v12,q6.2.1,q6.2.2))
 (some (put (put t11 14 (.tuple #[])) 15 (.tuple #[]),q6.2.1,q6.2.2))
 ).bind fun(q10:R3)=>(Zl (q10.1 13) (.bool true) (q10.1 15)).bind fun v13=>let t15:Tm:=put (put q10.1 16 v13) 17 v13
 (gsel v13 false
 ((Zd .plain .eql (t15 0) (.string ⟨#[108,101,116]⟩)).bind fun v16=>some (put (put t15 18 (t15 0)) 19 v16,q10.2.1,q10.2.2))
 (some (put (put t15 18 (.tuple #[])) 19 (.tuple #[]),q10.2.1,q10.2.2))
 ).bind fun(q14:R3)=>(Zl (q14.1 17) (.bool true) (q14.1 19)).bind fun v17=>let t19:Tm:=put (put q14.1 20 v17) 21 v17
 (gsel v17 false
 ((Zd .plain .eql (t19 0) (.string ⟨#[100,101,102,105,110,101]⟩)).bind fun v20=>some (put (put t19 22 (t19 0)) 23 v20,q14.2.1,q14.2.2))
 (some (put (put t19 22 (.tuple #[])) 23 (.tuple #[]),q14.2.1,q14.2.2))
 ).bind fun(q18:R3)=>(Zl (q18.1 21) (.bool true) (q18.1 23)).bind fun v21=>some (v21,q18.2.1,q18.2.2)
theorem s169 (C:Zb)(L:Zc->Zc)(t:Tm)(H:Hp)(n:Nat):Zq Tryz.prog C L Tryz.f169 t H n=S169 C L t H n:=by kernel_rfl
theorem c169 (args:List Value)(H:Hp)(n:Nat):Call Tryz.prog 169 args H n=S169 (Call Tryz.prog) Zm (Zp args) H n:=(Zg Tryz.func169 args H n).trans (s169 ..)
noncomputable def S170L0 (C:Zb)(L:Zc->Zc):Zc:=fun t H n=>(Zd .plain .lss (t 14) (t 13)).bind fun v9=>csel v9
 ((Zo 5 (t 12) (t 14)).bind fun v10=>(ld true 5 v10 H).bind fun v11=>let H12:=H.set (n+4) (some (.row [.int .i64 0,.int .i64 0,.string ⟨#[]⟩,.int .i64 0,.int .i64 0] 0 true))
 (st true 5 (ptr (n+4) 0) v11 H12).bind fun H13=>(Za 0 (ptr (n+4) 0)).bind fun v14=>(ld false 1 v14 H13).bind fun v15=>(Zd .plain .eql v15 (.int .i64 5)).bind fun v16=>let t18:Tm:=put (put (put (put (put (put (put (put (put (put t 15 v9) 16 (t 14)) 17 v10) 18 v11) 6 (ptr (n+4) 0)) 5 (t 14)) 19 v14) 20 v15) 22 v16) 21 v16
 (csel v16
 ((Za 3 (ptr (n+4) 0)).bind fun v19=>(ld false 1 v19 H13).bind fun v20=>(Zo 1 (t18 4) v20).bind fun v21=>(ld false 1 v21 H13).bind fun v22=>(Za 4 (ptr (n+4) 0)).bind fun v23=>(ld false 1 v23 H13).bind fun v24=>(Zo 1 (t18 4) v24).bind fun v25=>(ld false 1 v25 H13).bind fun v26=>(Za 3 (ptr (n+4) 0)).bind fun v27=>(st false 1 v27 v22 H13).bind fun H28=>ask (ld false 1 v25 H28=some v26) <|(Za 4 (ptr (n+4) 0)).bind fun v29=>(st false 1 v29 v26 H28).bind fun H30=>some ⟨.normal,put (put (put (put (put (put (put (put (put (put (put (put t18 23 (t18 4)) 24 v19) 25 v20) 26 v21) 27 v22) 28 (t18 4)) 29 v23) 30 v24) 31 v25) 32 v26) 33 v27) 34 v29,H30,n+25⟩)
 ((Zd .plain .eql v15 (.int .i64 6)).bind fun v31=>let t33:Tm:=put (put t18 36 v31) 35 v31
 (csel v31
 (some ⟨.normal,t33,H13,n+13⟩)
 ((Zd .plain .eql v15 (.int .i64 7)).bind fun v34=>some ⟨.normal,put (put t33 37 v34) 35 v34,H13,n+15⟩)
 ).bind fun(o32:Out)=>(csel (o32.t 35)
 ((Za 3 (o32.t 6)).bind fun v37=>(ld false 1 v37 o32.H).bind fun v38=>(Zo 1 (o32.t 4) v38).bind fun v39=>(ld false 1 v39 o32.H).bind fun v40=>(Za 3 (o32.t 6)).bind fun v41=>(st false 1 v41 v40 o32.H).bind fun H42=>some ⟨.normal,put (put (put (put (put (put o32.t 38 (o32.t 4)) 39 v37) 40 v38) 41 v39) 42 v40) 43 v41,H42,o32.n+7⟩)
 (some ⟨.normal,o32.t,o32.H,o32.n⟩)
 ).bind fun(o35:Out)=>some ⟨.normal,o35.t,o35.H,o35.n⟩)
 ).bind fun(o17:Out)=>(ld true 5 (o17.t 6) o17.H).bind fun v43=>(lookV [(0,(.int .i64)),(1,(.int .i64)),(2,.string),(3,(.int .i64)),(4,(.int .i64))] (.int .i64 0) true (o17.t 3) v43 o17.H).bind fun v44=>(ext 0 v44).bind fun v45=>(ext 1 v44).bind fun v46=>(un .not v46).bind fun v47=>let t49:Tm:=put (put (put (put (put (put (put (put (put (put o17.t 45 (o17.t 3)) 46 v43) 47 v44) 44 v44) 48 v45) 49 v46) 7 v45) 8 v46) 50 v46) 51 v47
 (csel v47
 ((ld true 5 (t49 6) o17.H).bind fun v50=>(updV [(0,(.int .i64)),(1,(.int .i64)),(2,.string),(3,(.int .i64)),(4,(.int .i64))] (t49 3) v50 (t49 5) o17.H).bind fun H51=>some ⟨.normal,put (put (put (put (put t49 52 (t49 5)) 7 (t49 5)) 53 (t49 3)) 54 v50) 55 (t49 5),H51,o17.n+16⟩)
 (some ⟨.normal,t49,o17.H,o17.n+10⟩)
 ).bind fun(o48:Out)=>(Xx (o48.n+2) 1 1 [.int .i64 0] [(0,1,o48.t 7)] o48.H).bind fun p52=>(app (o48.n+3) 1 8 (o48.t 4) p52.1 p52.2).bind fun p53=>(Zd .plain .add (o48.t 14) (.int .i64 1)).bind fun v54=>some ⟨.normal,put (put (put (put (put (put (put o48.t 56 (o48.t 4)) 57 (o48.t 7)) 58 p52.1) 59 p53.1) 4 p53.1) 60 v54) 14 v54,p53.2,o48.n+7⟩)
 (some ⟨(.exit 0),put t 15 v9,H,n+1⟩)
noncomputable def S170 (C:Zb)(L:Zc->Zc)(t:Tm)(H:Hp)(n:Nat):Option (Value × Hp × Nat) :=
 (Zs (t 0)).bind fun c2=>let H1:=H.set (n) (some (.row c2 0 true))
 let H3:=H1.set (n+2) (some (.map []))
 (Xx (n+4) 1 0 [.int .i64 0] [] H3).bind fun p4=>(Za 0 (ptr (n) 0)).bind fun v5=>(ld false 1 v5 p4.2).bind fun v6=>(Zx false v6).bind fun v7=>(L (S170L0 C L) (put (put (put (put (put (put (put (put (put (put t 1 (ptr (n) 0)) 2 nilS) 9 (.map (some (n+2)))) 3 (.map (some (n+2)))) 10 p4.1) 4 p4.1) 11 v5) 12 v6) 13 v7) 14 (.int .i64 0)) p4.2 (n+10)).bind fun(o8:Out)=>some (o8.t 4,o8.H,o8.n+2)
theorem s170 (C:Zb)(L:Zc->Zc)(t:Tm)(H:Hp)(n:Nat):Zq Tryz.prog C L Tryz.f170 t H n=S170 C L t H n:=by kernel_rfl
theorem c170 (args:List Value)(H:Hp)(n:Nat):Call Tryz.prog 170 args H n=S170 (Call Tryz.prog) Zm (Zp args) H n:=(Zg Tryz.func170 args H n).trans (s170 ..)
noncomputable def S171L0 (C:Zb)(L:Zc->Zc):Zc:=fun t H n=>(Zx false (t 9)).bind fun v87=>(Zd .plain .lss (t 12) v87).bind fun v88=>csel v88
 ((Zo 1 (t 9) (t 12)).bind fun v89=>(ld false 1 v89 H).bind fun v90=>(C 171 [t 0,v90,t 2] H (n+11)).bind fun q91=>(Zd .plain .add (t 12) (.int .i64 1)).bind fun v92=>some ⟨.normal,put (put (put (put (put (put (put (put (put (put (put (put (put (put t 113 (t 12)) 114 (t 9)) 115 v87) 116 v88) 119 (t 0)) 120 (t 9)) 121 (t 12)) 122 v89) 123 v90) 124 (t 2)) 125 q91.1) 117 (t 12)) 118 v92) 12 v92,q91.2.1,q91.2.2+3⟩)
 (some ⟨(.exit 1),put (put (put (put t 113 (t 12)) 114 (t 9)) 115 v87) 116 v88,H,n+4⟩)
noncomputable def S171 (C:Zb)(L:Zc->Zc)(t:Tm)(H:Hp)(n:Nat):Option (Value × Hp × Nat) :=
 (Zh (t 0)).bind fun v1=>(Za 3 v1).bind fun v2=>(ld false 1 v2 H).bind fun v3=>(Zd .plain .neq v3 (.int .i64 0)).bind fun v4=>csel v4
 (some (.tuple ⟨[]⟩,H,n+5))
 ((Zh (t 0)).bind fun v5=>(Za 0 v5).bind fun v6=>(Za 0 v6).bind fun v7=>(ld false 1 v7 H).bind fun v8=>(Zo 5 v8 (t 1)).bind fun v9=>(ld true 5 v9 H).bind fun v10=>let H11:=H.set (n+13) (some (.row [.int .i64 0,.int .i64 0,.string ⟨#[]⟩,.int .i64 0,.int .i64 0] 0 true))
 (st true 5 (ptr (n+13) 0) v10 H11).bind fun H12=>(Za 0 (ptr (n+13) 0)).bind fun v13=>(ld false 1 v13 H12).bind fun v14=>(Zd .plain .eql v14 (.int .i64 1)).bind fun v15=>let t17:Tm:=put (put (put (put (put (put (put (put (put (put (put (put (put (put (put (put (put (put t 13 (t 0)) 14 v1) 15 v2) 16 v3) 17 v4) 18 (t 0)) 19 v5) 20 v6) 21 v7) 22 v8) 23 (t 1)) 24 v9) 25 v10) 6 (ptr (n+13) 0)) 26 v13) 27 v14) 29 v15) 28 v15
 (csel v15
 (some ⟨.normal,t17,H12,n+19⟩)
 ((Zd .plain .eql v14 (.int .i64 2)).bind fun v18=>let t20:Tm:=put (put t17 30 v18) 28 v18
 (csel v18
 (some ⟨.normal,t20,H12,n+21⟩)
 ((Zd .plain .eql v14 (.int .i64 3)).bind fun v21=>some ⟨.normal,put (put t20 31 v21) 28 v21,H12,n+23⟩)
 ).bind fun(o19:Out)=>some ⟨.normal,o19.t,o19.H,o19.n⟩)
 ).bind fun(o16:Out)=>csel (o16.t 28)
 ((Xf [.int .i64 0,.int .i64 0,.int .i64 0,.string ⟨#[]⟩] [(0,1,.int .i64 1),(1,1,o16.t 1)]).bind fun v22=>(C 168 [o16.t 0,v22] o16.H (o16.n+4)).bind fun q23=>some (.tuple ⟨[]⟩,q23.2.1,q23.2.2))
 ((Zd .plain .eql (o16.t 27) (.int .i64 4)).bind fun v24=>csel v24
 ((Za 2 (o16.t 6)).bind fun v25=>(ld false 1 v25 o16.H).bind fun v26=>(C 169 [v26] o16.H (o16.n+5)).bind fun q27=>csel q27.1
 ((Zh (o16.t 0)).bind fun v28=>(Za 3 v28).bind fun v29=>(st false 1 v29 (.int .i64 1) q27.2.1).bind fun H30=>some (.tuple ⟨[]⟩,H30,q27.2.2+4))
 ((Za 2 (o16.t 6)).bind fun v31=>(ld false 1 v31 q27.2.1).bind fun v32=>(C 172 [o16.t 2,v32] q27.2.1 (q27.2.2+9)).bind fun q33=>(ext 0 q33.1).bind fun v34=>(ext 1 q33.1).bind fun v35=>(Zd .plain .geq v34 (.int .i64 0)).bind fun v36=>csel v36
 ((Xf [.int .i64 0,.int .i64 0,.int .i64 0,.string ⟨#[]⟩] [(0,1,.int .i64 2),(1,1,v34),(2,1,v35)]).bind fun v37=>(C 168 [o16.t 0,v37] q33.2.1 (q33.2.2+7)).bind fun q38=>some (.tuple ⟨[]⟩,q38.2.1,q38.2.2))
 ((Za 2 (o16.t 6)).bind fun v39=>(ld false 1 v39 q33.2.1).bind fun v40=>(Xf [.int .i64 0,.int .i64 0,.int .i64 0,.string ⟨#[]⟩] [(0,1,.int .i64 3),(3,1,v40)]).bind fun v41=>(C 168 [o16.t 0,v41] q33.2.1 (q33.2.2+7)).bind fun q42=>some (.tuple ⟨[]⟩,q42.2.1,q42.2.2))))
 ((Za 0 (o16.t 6)).bind fun v43=>(ld false 1 v43 o16.H).bind fun v44=>(Zd .plain .neq v44 (.int .i64 5)).bind fun v45=>csel v45
 ((Zh (o16.t 0)).bind fun v46=>(Za 3 v46).bind fun v47=>(st false 1 v47 (.int .i64 1) o16.H).bind fun H48=>some (.tuple ⟨[]⟩,H48,o16.n+9))
 ((Zh (o16.t 0)).bind fun v49=>(Za 0 v49).bind fun v50=>(ld true 1 v50 o16.H).bind fun v51=>(C 139 [v51,o16.t 1] o16.H (o16.n+16)).bind fun q52=>(ext 0 q52.1).bind fun v53=>(ext 1 q52.1).bind fun v54=>(un .not v54).bind fun v55=>csel v55
 ((Zh (o16.t 0)).bind fun v56=>(Za 3 v56).bind fun v57=>(st false 1 v57 (.int .i64 1) q52.2.1).bind fun H58=>some (.tuple ⟨[]⟩,H58,q52.2.2+6))
 ((Zh (o16.t 0)).bind fun v59=>(Za 0 v59).bind fun v60=>(Za 0 v60).bind fun v61=>(ld false 1 v61 q52.2.1).bind fun v62=>(Zo 1 v53 (.int .i64 0)).bind fun v63=>(ld false 1 v63 q52.2.1).bind fun v64=>(Zo 5 v62 v64).bind fun v65=>(ld true 5 v65 q52.2.1).bind fun v66=>let H67:=q52.2.1.set (q52.2.2+12) (some (.row [.int .i64 0,.int .i64 0,.string ⟨#[]⟩,.int .i64 0,.int .i64 0] 0 true))
 (st true 5 (ptr (q52.2.2+12) 0) v66 H67).bind fun H68=>(Za 0 (ptr (q52.2.2+12) 0)).bind fun v69=>(ld false 1 v69 H68).bind fun v70=>(Zd .plain .eql v70 (.int .i64 4)).bind fun v71=>let t73:Tm:=put (put (put (put (put (put (put (put (put (put (put (put (put (put (put (put (put (put (put (put (put (put (put (put (put (put (put (put (put (put (put (put (put o16.t 37 v24) 36 v24) 63 v43) 64 v44) 65 v45) 70 (o16.t 0)) 71 v49) 72 v50) 73 v51) 74 (o16.t 1)) 75 q52.1) 69 q52.1) 76 v53) 77 v54) 9 v53) 10 v54) 78 v54) 79 v55) 83 (o16.t 0)) 84 v59) 85 v60) 86 v61) 87 v62) 88 v53) 89 v63) 90 v64) 91 v65) 92 v66) 11 (ptr (q52.2.2+12) 0)) 93 v69) 94 v70) 95 v71) 96 v71
 (gsel v71 true
 ((Za 2 (ptr (q52.2.2+12) 0)).bind fun v74=>(ld false 1 v74 H68).bind fun v75=>(C 169 [v75] H68 (q52.2.2+22)).bind fun q76=>some (put (put (put t73 97 v74) 98 v75) 99 q76.1,q76.2.1,q76.2.2))
 (some (put (put (put t73 97 (.tuple #[])) 98 (.tuple #[])) 99 (.tuple #[]),H68,q52.2.2+22))
 ).bind fun(q72:R3)=>(Zl (q72.1 96) (q72.1 99) (.bool false)).bind fun v77=>csel v77
 ((Za 2 (q72.1 11)).bind fun v78=>(ld false 1 v78 q72.2.1).bind fun v79=>(C 173 [q72.1 0,v79,q72.1 9,q72.1 2] q72.2.1 (q72.2.2+6)).bind fun q80=>some (.tuple ⟨[]⟩,q80.2.1,q80.2.2))
 ((Zx false (q72.1 9)).bind fun v81=>(Zd .plain .gtr v81 (.int .i64 5)).bind fun v82=>csel v82
 ((Zh (q72.1 0)).bind fun v83=>(Za 3 v83).bind fun v84=>(st false 1 v84 (.int .i64 1) q72.2.1).bind fun H85=>some (.tuple ⟨[]⟩,H85,q72.2.2+7))
 ((L (S171L0 C L) (put (put (put (put (put q72.1 100 v77) 107 (q72.1 9)) 108 v81) 109 v82) 12 (.int .i64 0)) q72.2.1 (q72.2.2+4)).bind fun(o86:Out)=>(Zx false (o86.t 9)).bind fun v93=>(Zd .plain .sub v93 (.int .i64 1)).bind fun v94=>(Xf [.int .i64 0,.int .i64 0,.int .i64 0,.string ⟨#[]⟩] [(0,1,.int .i64 7),(2,1,v94)]).bind fun v95=>(C 168 [o86.t 0,v95] o86.H (o86.n+6)).bind fun q96=>some (.tuple ⟨[]⟩,q96.2.1,q96.2.2))))))))
theorem s171 (C:Zb)(L:Zc->Zc)(t:Tm)(H:Hp)(n:Nat):Zq Tryz.prog C L Tryz.f171 t H n=S171 C L t H n:=by kernel_rfl
theorem c171 (args:List Value)(H:Hp)(n:Nat):Call Tryz.prog 171 args H n=S171 (Call Tryz.prog) Zm (Zp args) H n:=(Zg Tryz.func171 args H n).trans (s171 ..)
noncomputable def S172L1 (C:Zb)(L:Zc->Zc):Zc:=fun t H n=>(Zo 1 (t 0) (t 6)).bind fun v5=>(ld false 1 v5 H).bind fun v6=>(Zx false v6).bind fun v7=>(Zd .plain .lss (t 7) v7).bind fun v8=>csel v8
 ((Zo 1 (t 0) (t 6)).bind fun v9=>(ld false 1 v9 H).bind fun v10=>(Zo 1 v10 (t 7)).bind fun v11=>(ld false 1 v11 H).bind fun v12=>(Zd .plain .eql v12 (t 1)).bind fun v13=>csel v13
 (some ⟨.ret,put (put (put (put (put (put (put (put (put (put (put (put (put (put (put (put (put (put (put (put t 14 (t 7)) 15 (t 0)) 16 (t 6)) 17 v5) 18 v6) 19 v7) 20 v8) 23 (t 0)) 24 (t 6)) 25 v9) 26 v10) 27 (t 7)) 28 v11) 29 v12) 30 (t 1)) 31 v13) 32 (t 6)) 33 (t 7)) 4 (t 6)) 5 (t 7),H,n+20⟩)
 ((Zd .plain .add (t 7) (.int .i64 1)).bind fun v14=>some ⟨.normal,put (put (put (put (put (put (put (put (put (put (put (put (put (put (put (put (put (put (put t 14 (t 7)) 15 (t 0)) 16 (t 6)) 17 v5) 18 v6) 19 v7) 20 v8) 23 (t 0)) 24 (t 6)) 25 v9) 26 v10) 27 (t 7)) 28 v11) 29 v12) 30 (t 1)) 31 v13) 21 (t 7)) 22 v14) 7 v14,H,n+19⟩))
 (some ⟨(.exit 2),put (put (put (put (put (put (put t 14 (t 7)) 15 (t 0)) 16 (t 6)) 17 v5) 18 v6) 19 v7) 20 v8,H,n+7⟩)
noncomputable def S172L0 (C:Zb)(L:Zc->Zc):Zc:=fun t H n=>(Zx false (t 0)).bind fun v2=>(Zd .plain .lss (t 6) v2).bind fun v3=>csel v3
 ((L (S172L1 C L) (put (put (put (put (put t 8 (t 6)) 9 (t 0)) 10 v2) 11 v3) 7 (.int .i64 0)) H (n+5)).bind fun(o4:Out)=>let o15:=outOf 2 o4
 let o16:=outOf 1 o15
 Xe o16
 ((Zd .plain .add (o16.t 6) (.int .i64 1)).bind fun v17=>some ⟨.normal,put (put (put o16.t 12 (o16.t 6)) 13 v17) 6 v17,o16.H,o16.n+3⟩)
 (some o16))
 (some ⟨(.exit 0),put (put (put (put t 8 (t 6)) 9 (t 0)) 10 v2) 11 v3,H,n+4⟩)
noncomputable def S172 (C:Zb)(L:Zc->Zc)(t:Tm)(H:Hp)(n:Nat):Option (Value × Hp × Nat) :=
 (L (S172L0 C L) (put (put (put t 4 (.int .i64 0)) 5 (.int .i64 0)) 6 (.int .i64 0)) H (n+3)).bind fun(o1:Out)=>let o18:=outOf 0 o1
 Xe o18
 (Yr ([.int .i64 (-1),.int .i64 0].all notTup) <|some (.tuple ⟨[.int .i64 (-1),.int .i64 0]⟩,o18.H,o18.n+2))
 (Vs o18.e
 (Yr ([o18.t 4,o18.t 5].all notTup) <|some (.tuple ⟨[o18.t 4,o18.t 5]⟩,o18.H,o18.n)))
theorem s172 (C:Zb)(L:Zc->Zc)(t:Tm)(H:Hp)(n:Nat):Zq Tryz.prog C L Tryz.f172 t H n=S172 C L t H n:=by kernel_rfl
theorem c172 (args:List Value)(H:Hp)(n:Nat):Call Tryz.prog 172 args H n=S172 (Call Tryz.prog) Zm (Zp args) H n:=(Zg Tryz.func172 args H n).trans (s172 ..)
noncomputable def S173 (C:Zb)(L:Zc->Zc)(t:Tm)(H:Hp)(n:Nat):Option (Value × Hp × Nat) :=
 (Zx false (t 2)).bind fun v1=>(Zd .plain .eql (t 1) (.string ⟨#[113,117,111,116,101]⟩)).bind fun v2=>let t4:Tm:=put (put (put (put (put (put t 15 (t 2)) 16 v1) 8 v1) 21 (t 1)) 22 v2) 23 v2
 (gsel v2 true
 ((Zd .plain .eql v1 (.int .i64 2)).bind fun v5=>some (put (put t4 24 v1) 25 v5,H,n+10))
 (some (put (put t4 24 (.tuple #[])) 25 (.tuple #[]),H,n+10))
 ).bind fun(q3:R3)=>(Zl (q3.1 23) (q3.1 25) (.bool false)).bind fun v6=>let t8:Tm:=put (put q3.1 26 v6) 20 v6
 (csel v6
 ((Zo 1 (t8 2) (.int .i64 1)).bind fun v9=>(ld false 1 v9 q3.2.1).bind fun v10=>(Xf [.int .i64 0,.int .i64 0,.int .i64 0,.string ⟨#[]⟩] [(0,1,.int .i64 1),(1,1,v10)]).bind fun v11=>(C 168 [t8 0,v11] q3.2.1 (q3.2.2+6)).bind fun q12=>some ⟨.normal,put (put (put (put (put (put t8 27 (t8 0)) 28 (t8 2)) 29 v9) 30 v10) 31 v11) 32 q12.1,q12.2.1,q12.2.2⟩)
 ((Zd .plain .eql (t8 1) (.string ⟨#[105,102]⟩)).bind fun v13=>let t15:Tm:=put (put (put t8 34 (t8 1)) 35 v13) 36 v13
 (gsel v13 true
 ((Zd .plain .eql (t15 8) (.int .i64 4)).bind fun v16=>some (put (put t15 37 (t15 8)) 38 v16,q3.2.1,q3.2.2+7))
 (some (put (put t15 37 (.tuple #[])) 38 (.tuple #[]),q3.2.1,q3.2.2+7))
 ).bind fun(q14:R3)=>(Zl (q14.1 36) (q14.1 38) (.bool false)).bind fun v17=>let t19:Tm:=put (put q14.1 39 v17) 33 v17
 (csel v17
 ((Zo 1 (t19 2) (.int .i64 1)).bind fun v20=>(ld false 1 v20 q14.2.1).bind fun v21=>(C 171 [t19 0,v21,t19 3] q14.2.1 (q14.2.2+6)).bind fun q22=>(Xf [.int .i64 0,.int .i64 0,.int .i64 0,.string ⟨#[]⟩] [(0,1,.int .i64 4)]).bind fun v23=>(C 168 [t19 0,v23] q22.2.1 (q22.2.2+4)).bind fun q24=>(Zo 1 (t19 2) (.int .i64 2)).bind fun v25=>(ld false 1 v25 q24.2.1).bind fun v26=>(C 171 [t19 0,v26,t19 3] q24.2.1 (q24.2.2+6)).bind fun q27=>(Xf [.int .i64 0,.int .i64 0,.int .i64 0,.string ⟨#[]⟩] [(0,1,.int .i64 5)]).bind fun v28=>(C 168 [t19 0,v28] q27.2.1 (q27.2.2+4)).bind fun q29=>(C 174 [t19 0,q24.1] q29.2.1 (q29.2.2+3)).bind fun q30=>(Zo 1 (t19 2) (.int .i64 3)).bind fun v31=>(ld false 1 v31 q30.2.1).bind fun v32=>(C 171 [t19 0,v32,t19 3] q30.2.1 (q30.2.2+6)).bind fun q33=>(C 174 [t19 0,q29.1] q33.2.1 (q33.2.2+3)).bind fun q34=>some ⟨.normal,put (put (put (put (put (put (put (put (put (put (put (put (put (put (put (put (put (put (put (put (put (put (put (put (put (put (put (put (put (put (put (put t19 40 (t19 0)) 41 (t19 2)) 42 v20) 43 v21) 44 (t19 3)) 45 q22.1) 46 (t19 0)) 47 v23) 48 q24.1) 9 q24.1) 49 (t19 0)) 50 (t19 2)) 51 v25) 52 v26) 53 (t19 3)) 54 q27.1) 55 (t19 0)) 56 v28) 57 q29.1) 10 q29.1) 58 (t19 0)) 59 q24.1) 60 q30.1) 61 (t19 0)) 62 (t19 2)) 63 v31) 64 v32) 65 (t19 3)) 66 q33.1) 67 (t19 0)) 68 q29.1) 69 q34.1,q34.2.1,q34.2.2⟩)
 ((Zd .plain .eql (t19 1) (.string ⟨#[100,111]⟩)).bind fun v35=>let t37:Tm:=put (put (put t19 71 (t19 1)) 72 v35) 73 v35
 (gsel v35 true
 ((Zd .plain .geq (t37 8) (.int .i64 2)).bind fun v38=>some (put (put t37 74 (t37 8)) 75 v38,q14.2.1,q14.2.2+7))
 (some (put (put t37 74 (.tuple #[])) 75 (.tuple #[]),q14.2.1,q14.2.2+7))
 ).bind fun(q36:R3)=>(Zl (q36.1 73) (q36.1 75) (.bool false)).bind fun v39=>let t41:Tm:=put (put q36.1 76 v39) 70 v39
 (csel v39
 ((Yt 1 (t41 2) (some (.int .i64 1)) none).bind fun v42=>(C 167 [t41 0,v42,t41 3] q36.2.1 (q36.2.2+5)).bind fun q43=>some ⟨.normal,put (put (put (put (put t41 77 (t41 0)) 78 (t41 2)) 79 v42) 80 (t41 3)) 81 q43.1,q43.2.1,q43.2.2⟩)
 ((Zd .plain .eql (t41 1) (.string ⟨#[102,110]⟩)).bind fun v44=>let t46:Tm:=put (put (put t41 83 (t41 1)) 84 v44) 85 v44
 (gsel v44 true
 ((Zd .plain .geq (t46 8) (.int .i64 3)).bind fun v47=>some (put (put t46 86 (t46 8)) 87 v47,q36.2.1,q36.2.2+7))
 (some (put (put t46 86 (.tuple #[])) 87 (.tuple #[]),q36.2.1,q36.2.2+7))
 ).bind fun(q45:R3)=>(Zl (q45.1 85) (q45.1 87) (.bool false)).bind fun v48=>let t50:Tm:=put (put q45.1 88 v48) 82 v48
 (csel v48
 ((Zh (t50 0)).bind fun v51=>(Za 0 v51).bind fun v52=>(ld true 1 v52 q45.2.1).bind fun v53=>(Zo 1 (t50 2) (.int .i64 1)).bind fun v54=>(ld false 1 v54 q45.2.1).bind fun v55=>(C 139 [v53,v55] q45.2.1 (q45.2.2+13)).bind fun q56=>(ext 0 q56.1).bind fun v57=>(ext 1 q56.1).bind fun v58=>(un .not v58).bind fun v59=>csel v59
 ((Zh (t50 0)).bind fun v60=>(Za 3 v60).bind fun v61=>(st false 1 v61 (.int .i64 1) q56.2.1).bind fun H62=>some ⟨.ret,put (put (put (put (put (put (put (put (put (put (put (put (put (put (put (put (put (put t50 90 (t50 0)) 91 v51) 92 v52) 93 v53) 94 (t50 2)) 95 v54) 96 v55) 97 q56.1) 89 q56.1) 98 v57) 99 v58) 11 v57) 12 v58) 100 v58) 101 v59) 102 (t50 0)) 103 v60) 104 v61,H62,q56.2.2+6⟩)
 ((C 159 [t50 0,v57] q56.2.1 (q56.2.2+6)).bind fun q63=>(Yt 1 (t50 2) (some (.int .i64 2)) none).bind fun v64=>(C 175 [t50 0,q63.1,v64,t50 3] q63.2.1 (q63.2.2+6)).bind fun q65=>some ⟨.normal,put (put (put (put (put (put (put (put (put (put (put (put (put (put (put (put (put (put (put (put (put (put (put (put (put t50 90 (t50 0)) 91 v51) 92 v52) 93 v53) 94 (t50 2)) 95 v54) 96 v55) 97 q56.1) 89 q56.1) 98 v57) 99 v58) 11 v57) 12 v58) 100 v58) 101 v59) 105 (t50 0)) 106 v57) 107 q63.1) 13 q63.1) 108 (t50 0)) 109 q63.1) 110 (t50 2)) 111 v64) 112 (t50 3)) 113 q65.1,q65.2.1,q65.2.2⟩))
 ((Zd .plain .eql (t50 1) (.string ⟨#[108,101,116]⟩)).bind fun v66=>let t68:Tm:=put (put (put t50 115 (t50 1)) 116 v66) 117 v66
 (gsel v66 true
 ((Zd .plain .geq (t68 8) (.int .i64 4)).bind fun v69=>some (put (put t68 118 (t68 8)) 119 v69,q45.2.1,q45.2.2+7))
 (some (put (put t68 118 (.tuple #[])) 119 (.tuple #[]),q45.2.1,q45.2.2+7))
 ).bind fun(q67:R3)=>(Zl (q67.1 117) (q67.1 119) (.bool false)).bind fun v70=>let t72:Tm:=put (put q67.1 120 v70) 114 v70
 (csel v70
 ((Yt 1 (t72 2) (some (.int .i64 1)) (some (.int .i64 2))).bind fun v73=>(C 159 [t72 0,v73] q67.2.1 (q67.2.2+5)).bind fun q74=>(Yt 1 (t72 2) (some (.int .i64 3)) none).bind fun v75=>(C 175 [t72 0,q74.1,v75,t72 3] q74.2.1 (q74.2.2+6)).bind fun q76=>(Zo 1 (t72 2) (.int .i64 2)).bind fun v77=>(ld false 1 v77 q76.2.1).bind fun v78=>(C 171 [t72 0,v78,t72 3] q76.2.1 (q76.2.2+6)).bind fun q79=>(Xf [.int .i64 0,.int .i64 0,.int .i64 0,.string ⟨#[]⟩] [(0,1,.int .i64 7),(2,1,.int .i64 1)]).bind fun v80=>(C 168 [t72 0,v80] q79.2.1 (q79.2.2+3)).bind fun q81=>some ⟨.normal,put (put (put (put (put (put (put (put (put (put (put (put (put (put (put (put (put (put (put (put t72 121 (t72 0)) 122 (t72 2)) 123 v73) 124 q74.1) 14 q74.1) 125 (t72 0)) 126 q74.1) 127 (t72 2)) 128 v75) 129 (t72 3)) 130 q76.1) 131 (t72 0)) 132 (t72 2)) 133 v77) 134 v78) 135 (t72 3)) 136 q79.1) 137 (t72 0)) 138 v80) 139 q81.1,q81.2.1,q81.2.2⟩)
 ((Zh (t72 0)).bind fun v82=>(Za 3 v82).bind fun v83=>(st false 1 v83 (.int .i64 1) q67.2.1).bind fun H84=>some ⟨.normal,put (put (put t72 17 (t72 0)) 18 v82) 19 v83,H84,q67.2.2+4⟩)
 ).bind fun(o71:Out)=>some ⟨.normal,o71.t,o71.H,o71.n⟩)
 ).bind fun(o49:Out)=>some o49)
 ).bind fun(o40:Out)=>some o40)
 ).bind fun(o18:Out)=>some o18)
 ).bind fun(o7:Out)=>let o85:=outOf 0 o7
 Vs o85.e
 (some (.tuple ⟨[]⟩,o85.H,o85.n))
theorem s173 (C:Zb)(L:Zc->Zc)(t:Tm)(H:Hp)(n:Nat):Zq Tryz.prog C L Tryz.f173 t H n=S173 C L t H n:=by kernel_rfl
theorem c173 (args:List Value)(H:Hp)(n:Nat):Call Tryz.prog 173 args H n=S173 (Call Tryz.prog) Zm (Zp args) H n:=(Zg Tryz.func173 args H n).trans (s173 ..)
noncomputable def S174 (C:Zb)(L:Zc->Zc)(t:Tm)(H:Hp)(n:Nat):Option (Value × Hp × Nat) :=
 (Zh (t 0)).bind fun v1=>(Za 3 v1).bind fun v2=>(ld false 1 v2 H).bind fun v3=>(Zd .plain .eql v3 (.int .i64 0)).bind fun v4=>let t6:Tm:=put (put (put (put (put t 4 (t 0)) 5 v1) 6 v2) 7 v3) 8 v4
 (csel v4
 ((Zh (t6 0)).bind fun v7=>(Za 1 v7).bind fun v8=>(ld false 1 v8 H).bind fun v9=>(Zh (t6 0)).bind fun v10=>(Za 1 v10).bind fun v11=>(ld false 1 v11 H).bind fun v12=>(Zx false v12).bind fun v13=>(Zo 4 v9 (t6 1)).bind fun v14=>(Za 1 v14).bind fun v15=>(st false 1 v15 v13 H).bind fun H16=>some ⟨.normal,put (put (put (put (put (put (put (put (put (put (put (put t6 9 (t6 0)) 10 v7) 11 v8) 12 v9) 13 (t6 1)) 14 (t6 0)) 15 v10) 16 v11) 17 v12) 18 v13) 19 v14) 20 v15,H16,n+18⟩)
 (some ⟨.normal,t6,H,n+5⟩)
 ).bind fun(o5:Out)=>some (.tuple ⟨[]⟩,o5.H,o5.n)
theorem s174 (C:Zb)(L:Zc->Zc)(t:Tm)(H:Hp)(n:Nat):Zq Tryz.prog C L Tryz.f174 t H n=S174 C L t H n:=by kernel_rfl
theorem c174 (args:List Value)(H:Hp)(n:Nat):Call Tryz.prog 174 args H n=S174 (Call Tryz.prog) Zm (Zp args) H n:=(Zg Tryz.func174 args H n).trans (s174 ..)
noncomputable def S175 (C:Zb)(L:Zc->Zc)(t:Tm)(H:Hp)(n:Nat):Option (Value × Hp × Nat) :=
 (Zx false (t 1)).bind fun v1=>(Xf [.int .i64 0,.int .i64 0,.int .i64 0,.string ⟨#[]⟩] [(0,1,.int .i64 6),(2,1,v1)]).bind fun v2=>(C 168 [t 0,v2] H (n+6)).bind fun q3=>(Xf [.int .i64 0,.int .i64 0,.int .i64 0,.string ⟨#[]⟩] [(0,1,.int .i64 5)]).bind fun v4=>(C 168 [t 0,v4] q3.2.1 (q3.2.2+4)).bind fun q5=>(C 174 [t 0,q3.1] q5.2.1 (q5.2.2+3)).bind fun q6=>(Xx (q6.2.2+3) 1 1 [nilS] [(0,1,t 1)] q6.2.1).bind fun p7=>(app (q6.2.2+5) 1 24 p7.1 (t 3) p7.2).bind fun p8=>(C 167 [t 0,t 2,p8.1] p8.2 (q6.2.2+7)).bind fun q9=>(Xf [.int .i64 0,.int .i64 0,.int .i64 0,.string ⟨#[]⟩] [(0,1,.int .i64 8)]).bind fun v10=>(C 168 [t 0,v10] q9.2.1 (q9.2.2+3)).bind fun q11=>(C 174 [t 0,q5.1] q11.2.1 (q11.2.2+3)).bind fun q12=>some (.tuple ⟨[]⟩,q12.2.1,q12.2.2)
theorem s175 (C:Zb)(L:Zc->Zc)(t:Tm)(H:Hp)(n:Nat):Zq Tryz.prog C L Tryz.f175 t H n=S175 C L t H n:=by kernel_rfl
theorem c175 (args:List Value)(H:Hp)(n:Nat):Call Tryz.prog 175 args H n=S175 (Call Tryz.prog) Zm (Zp args) H n:=(Zg Tryz.func175 args H n).trans (s175 ..)
end Go.Proofs.YtcffcnipmgkjfaaGreat.Ax
