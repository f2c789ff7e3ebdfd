/- What the bodies of some functions of the program come to in the abstract machine. -/
import Derived.Test.YtcffcnipmgkjfaaGreatProg
import Derived.Test.YtcffcnipmgkjfaaGreatM0
set_option linter.unusedVariables false
namespace Go.Proofs.YtcffcnipmgkjfaaGreat.Ax
open Go
set_option maxRecDepth 100000
noncomputable def S124 (C:Zb) (L:Zc→Zc) (t:Tm) (H:Hp) (n:Nat):Option (Value × Hp × Nat) :=
 (lenV false (t 2)).bind fun v1 =>
 (Zd .plain .neq v1 (.int .i64 1)).bind fun v2 =>
 csel v2
 (some (.int .i64 2,H,n+5))
 ((Zg (t 0)).bind fun v3 =>
 (Za 0 v3).bind fun v4 =>
 (Za 0 v4).bind fun v5 =>
 (C 96 [v5,t 1] H (n+15)).bind fun q6 =>
 (ext 0 q6.1).bind fun v7 =>
 (ext 1 q6.1).bind fun v8 =>
 (un .not v8).bind fun v9 =>
 let t11:Tm:=put (put (put (put (put (put (put (put (put (put (put (put (put (put (put (put (put (put t 6 (.int .i64 0)) 9 (t 2)) 10 v1) 11 v2) 13 (t 0)) 14 v3) 15 v4) 16 v5) 17 (t 1)) 18 q6.1) 12 q6.1) 19 v7) 20 v8) 7 v7) 8 v8) 21 v8) 22 v9) 23 v9
 (gsel v9 false
 ((lenV false v7).bind fun v12 =>
 (Zd .plain .neq v12 (.int .i64 4)).bind fun v13 =>
 some ⟨put (put (put t11 24 v7) 25 v12) 26 v13,q6.2.1,q6.2.2+42,[],[]⟩)
 (some ⟨put (put (put t11 24 (.tuple #[])) 25 (.tuple #[])) 26 (.tuple #[]),q6.2.1,q6.2.2+42,[],[]⟩)
 ).bind fun (q10:R5) =>
 (Zr (q10.t 23) (.bool true) (q10.t 26)).bind fun v14 =>
 let t16:Tm:=put (put q10.t 27 v14) 28 v14
 (gsel v14 false
 ((Zg (t16 0)).bind fun v17 =>
 (Za 0 v17).bind fun v18 =>
 (Za 0 v18).bind fun v19 =>
 (Za 0 v19).bind fun v20 =>
 (ld false 1 v20 q10.H).bind fun v21 =>
 askB 8191 false 1 v20 v21 q10.hs <|
 (Zn 1 (t16 7) (.int .i64 0)).bind fun v22 =>
 (ld false 1 v22 q10.H).bind fun v23 =>
 askB 49407 false 1 v22 v23 q10.hs <|
 (Zn 5 v21 v23).bind fun v24 =>
 (Za 0 v24).bind fun v25 =>
 (ld false 1 v25 q10.H).bind fun v26 =>
 askB 524287 false 1 v25 v26 q10.hs <|
 (Zd .plain .neq v26 (.int .i64 3)).bind fun v27 =>
 some ⟨put (put (put (put (put (put (put (put (put (put (put (put (put t16 29 (t16 0)) 30 v17) 31 v18) 32 v19) 33 v20) 34 v21) 35 (t16 7)) 36 v22) 37 v23) 38 v24) 39 v25) 40 v26) 41 v27,q10.H,q10.n,(⟨19,false,1,v25,v26⟩ :: ⟨16,false,1,v22,v23⟩ :: ⟨13,false,1,v20,v21⟩ :: q10.rs),q10.hs⟩)
 (some ⟨put (put (put (put (put (put (put (put (put (put (put (put (put t16 29 (.tuple #[])) 30 (.tuple #[])) 31 (.tuple #[])) 32 (.tuple #[])) 33 (.tuple #[])) 34 (.tuple #[])) 35 (.tuple #[])) 36 (.tuple #[])) 37 (.tuple #[])) 38 (.tuple #[])) 39 (.tuple #[])) 40 (.tuple #[])) 41 (.tuple #[]),q10.H,q10.n,q10.rs,q10.hs⟩)
 ).bind fun (q15:R5) =>
 (Zr (q15.t 28) (.bool true) (q15.t 41)).bind fun v28 =>
 let t30:Tm:=put (put q15.t 42 v28) 43 v28
 (gsel v28 false
 ((Zg (t30 0)).bind fun v31 =>
 (Za 8 v31).bind fun v32 =>
 (ld true 3 v32 q15.H).bind fun v33 =>
 askB 67108863 true 3 v32 v33 q15.hs <|
 (Zg (t30 0)).bind fun v34 =>
 (Za 0 v34).bind fun v35 =>
 (Za 0 v35).bind fun v36 =>
 (Za 0 v36).bind fun v37 =>
 (ld false 1 v37 q15.H).bind fun v38 =>
 askB 4169138175 false 1 v37 v38 q15.hs <|
 (Zn 1 (t30 7) (.int .i64 0)).bind fun v39 =>
 (ld false 1 v39 q15.H).bind fun v40 =>
 askB 25778192383 false 1 v39 v40 q15.hs <|
 (Zn 5 v38 v40).bind fun v41 =>
 (Za 1 v41).bind fun v42 =>
 (ld false 1 v42 q15.H).bind fun v43 =>
 askB 274752077823 false 1 v42 v43 q15.hs <|
 (C 42 [v33,v43] q15.H (q15.n)).bind fun q44 =>
 asks 549755813887 q44.2.1 q15.rs <|
 (un .not q44.1).bind fun v45 =>
 some ⟨put (put (put (put (put (put (put (put (put (put (put (put (put (put (put (put (put (put t30 44 (t30 0)) 45 v31) 46 v32) 47 v33) 48 (t30 0)) 49 v34) 50 v35) 51 v36) 52 v37) 53 v38) 54 (t30 7)) 55 v39) 56 v40) 57 v41) 58 v42) 59 v43) 60 q44.1) 61 v45,q44.2.1,q44.2.2,(⟨38,false,1,v42,v43⟩ :: ⟨35,false,1,v39,v40⟩ :: ⟨32,false,1,v37,v38⟩ :: ⟨26,true,3,v32,v33⟩ :: q15.rs),((39,q15.H) :: q15.hs)⟩)
 (some ⟨put (put (put (put (put (put (put (put (put (put (put (put (put (put (put (put (put (put t30 44 (.tuple #[])) 45 (.tuple #[])) 46 (.tuple #[])) 47 (.tuple #[])) 48 (.tuple #[])) 49 (.tuple #[])) 50 (.tuple #[])) 51 (.tuple #[])) 52 (.tuple #[])) 53 (.tuple #[])) 54 (.tuple #[])) 55 (.tuple #[])) 56 (.tuple #[])) 57 (.tuple #[])) 58 (.tuple #[])) 59 (.tuple #[])) 60 (.tuple #[])) 61 (.tuple #[]),q15.H,q15.n,q15.rs,q15.hs⟩)
 ).bind fun (q29:R5) =>
 (Zr (q29.t 43) (.bool true) (q29.t 61)).bind fun v46 =>
 csel v46
 (some (.int .i64 7,q29.H,q29.n+1))
 ((Zg (q29.t 0)).bind fun v47 =>
 (Za 0 v47).bind fun v48 =>
 (Za 0 v48).bind fun v49 =>
 (Za 0 v49).bind fun v50 =>
 (ld false 1 v50 q29.H).bind fun v51 =>
 (Zn 1 (q29.t 7) (.int .i64 0)).bind fun v52 =>
 (ld false 1 v52 q29.H).bind fun v53 =>
 (Zn 5 v51 v53).bind fun v54 =>
 (Za 1 v54).bind fun v55 =>
 (ld false 1 v55 q29.H).bind fun v56 =>
 (Zn 1 (q29.t 7) (.int .i64 1)).bind fun v57 =>
 (ld false 1 v57 q29.H).bind fun v58 =>
 (Zn 1 (q29.t 7) (.int .i64 2)).bind fun v59 =>
 (ld false 1 v59 q29.H).bind fun v60 =>
 (Zn 1 (q29.t 7) (.int .i64 3)).bind fun v61 =>
 (ld false 1 v61 q29.H).bind fun v62 =>
 (Zg (q29.t 0)).bind fun v63 =>
 (Za 0 v63).bind fun v64 =>
 (Za 1 v64).bind fun v65 =>
 (st false 1 v65 v56 q29.H).bind fun H66 =>
 (Zg (q29.t 0)).bind fun v67 =>
 (Za 0 v67).bind fun v68 =>
 (Za 2 v68).bind fun v69 =>
 (st false 1 v69 v58 H66).bind fun H70 =>
 (Zg (q29.t 0)).bind fun v71 =>
 (Za 0 v71).bind fun v72 =>
 (Za 3 v72).bind fun v73 =>
 (st false 1 v73 v60 H70).bind fun H74 =>
 (Zg (q29.t 0)).bind fun v75 =>
 (Za 0 v75).bind fun v76 =>
 (Za 4 v76).bind fun v77 =>
 (st false 1 v77 v62 H74).bind fun H78 =>
 (Zn 1 (q29.t 2) (.int .i64 0)).bind fun v79 =>
 (ld false 1 v79 H78).bind fun v80 =>
 (C 97 [q29.t 0,v80] H78 (q29.n+46)).bind fun q81 =>
 some (.int .i64 0,q81.2.1,q81.2.2+1)))
theorem s124 (C:Zb) (L:Zc→Zc) (t:Tm) (H:Hp) (n:Nat):Zo Tryz.prog C L Tryz.f124 t H n=S124 C L t H n:=by kernel_rfl
theorem c124 (args:List Value) (H:Hp) (n:Nat):Call Tryz.prog 124 args H n=S124 (Call Tryz.prog) Zi (Zm args) H n:=(Ze Tryz.func124 args H n).trans (s124 ..)
noncomputable def S125 (C:Zb) (L:Zc→Zc) (t:Tm) (H:Hp) (n:Nat):Option (Value × Hp × Nat) :=
 (bld [.int .i64 0,.int .i64 0,.string ⟨#[]⟩,.int .i64 0,.int .i64 0] [(0,1,.int .i64 5),(3,1,t 1),(4,1,t 2)]).bind fun v1 =>
 (C 101 [t 0,v1] H (n+7)).bind fun q2 =>
 some (q2.1,q2.2.1,q2.2.2)
theorem s125 (C:Zb) (L:Zc→Zc) (t:Tm) (H:Hp) (n:Nat):Zo Tryz.prog C L Tryz.f125 t H n=S125 C L t H n:=by kernel_rfl
theorem c125 (args:List Value) (H:Hp) (n:Nat):Call Tryz.prog 125 args H n=S125 (Call Tryz.prog) Zi (Zm args) H n:=(Ze Tryz.func125 args H n).trans (s125 ..)
noncomputable def S126L0 (C:Zb) (L:Zc→Zc):Zc:=fun t H n =>
 (Zd .plain .lss (t 21) (t 20)).bind fun v13 =>
 csel v13
 (let t15:Tm:=put t 22 v13
 Option.bind
 ((Zn 5 (t15 19) (t15 21)).bind fun v16 =>
 (ld true 5 v16 H).bind fun v17 =>
 let H18:=H.set (n+4) (some (.row [.int .i64 0,.int .i64 0,.string ⟨#[]⟩,.int .i64 0,.int .i64 0] 0 true))
 (st true 5 (ptr (n+4) 0) v17 H18).bind fun H19 =>
 (Zn 1 (t15 7) (t15 21)).bind fun v20 =>
 (st false 1 v20 (.int .i64 (-1)) H19).bind fun H21 =>
 (Zn 1 (t15 8) (t15 21)).bind fun v22 =>
 (ld false 1 v22 H21).bind fun v23 =>
 (un .not v23).bind fun v24 =>
 csel v24
 (some ⟨(.exit 1),put (put (put (put (put (put (put (put (put (put (put (put (put t15 23 (t15 21)) 24 v16) 25 v17) 10 (ptr (n+4) 0)) 9 (t15 21)) 26 (t15 7)) 27 (t15 21)) 28 v20) 29 (t15 8)) 30 (t15 21)) 31 v22) 32 v23) 33 v24,H21,n+16⟩)
 ((Za 0 (ptr (n+4) 0)).bind fun v25 =>
 (ld false 1 v25 H21).bind fun v26 =>
 (Zd .plain .eql v26 (.int .i64 5)).bind fun v27 =>
 let t29:Tm:=put (put (put (put (put (put (put (put (put (put (put (put (put (put (put (put (put t15 23 (t15 21)) 24 v16) 25 v17) 10 (ptr (n+4) 0)) 9 (t15 21)) 26 (t15 7)) 27 (t15 21)) 28 v20) 29 (t15 8)) 30 (t15 21)) 31 v22) 32 v23) 33 v24) 34 v25) 35 v26) 37 v27) 36 v27
 (csel v27
 ((Za 3 (ptr (n+4) 0)).bind fun v30 =>
 (ld false 1 v30 H21).bind fun v31 =>
 (Zn 1 (t29 7) v31).bind fun v32 =>
 (ld false 1 v32 H21).bind fun v33 =>
 (Za 4 (ptr (n+4) 0)).bind fun v34 =>
 (ld false 1 v34 H21).bind fun v35 =>
 (Zn 1 (t29 7) v35).bind fun v36 =>
 (ld false 1 v36 H21).bind fun v37 =>
 (Za 3 (ptr (n+4) 0)).bind fun v38 =>
 (st false 1 v38 v33 H21).bind fun H39 =>
 ask (ld false 1 v36 H39=some v37) <|
 (Za 4 (ptr (n+4) 0)).bind fun v40 =>
 (st false 1 v40 v37 H39).bind fun H41 =>
 some ⟨.normal,put (put (put (put (put (put (put (put (put (put (put (put t29 38 (t29 7)) 39 v30) 40 v31) 41 v32) 42 v33) 43 (t29 7)) 44 v34) 45 v35) 46 v36) 47 v37) 48 v38) 49 v40,H41,n+34⟩)
 ((Zd .plain .eql v26 (.int .i64 6)).bind fun v42 =>
 let t44:Tm:=put (put t29 51 v42) 50 v42
 (csel v42
 (some ⟨.normal,t44,H21,n+22⟩)
 ((Zd .plain .eql v26 (.int .i64 7)).bind fun v45 =>
 some ⟨.normal,put (put t44 52 v45) 50 v45,H21,n+24⟩)
 ).bind fun (o43:Out) =>
 (csel (o43.t 50)
 ((Za 3 (o43.t 10)).bind fun v48 =>
 (ld false 1 v48 o43.H).bind fun v49 =>
 (Zn 1 (o43.t 7) v49).bind fun v50 =>
 (ld false 1 v50 o43.H).bind fun v51 =>
 (Za 3 (o43.t 10)).bind fun v52 =>
 (st false 1 v52 v51 o43.H).bind fun H53 =>
 some ⟨.normal,put (put (put (put (put (put o43.t 53 (o43.t 7)) 54 v48) 55 v49) 56 v50) 57 v51) 58 v52,H53,o43.n+7⟩)
 (some ⟨.normal,o43.t,o43.H,o43.n⟩)
 ).bind fun (o46:Out) =>
 some ⟨.normal,o46.t,o46.H,o46.n⟩)
 ).bind fun (o28:Out) =>
 (ld true 5 (o28.t 10) o28.H).bind fun v54 =>
 (C 101 [o28.t 0,v54] o28.H (o28.n+7)).bind fun q55 =>
 (Zn 1 (o28.t 7) (o28.t 9)).bind fun v56 =>
 (st false 1 v56 q55.1 q55.2.1).bind fun H57 =>
 some ⟨.normal,put (put (put (put (put (put o28.t 59 (o28.t 7)) 60 (o28.t 9)) 61 (o28.t 0)) 62 v54) 63 q55.1) 64 v56,H57,q55.2.2⟩))
 fun (o14:Out) =>
 (Zd .plain .add (o14.t 21) (.int .i64 1)).bind fun v58 =>
 some ⟨.normal,put (put o14.t 65 v58) 21 v58,o14.H,o14.n+2⟩)
 (some ⟨(.exit 0),put t 22 v13,H,n+1⟩)
noncomputable def S126 (C:Zb) (L:Zc→Zc) (t:Tm) (H:Hp) (n:Nat):Option (Value × Hp × Nat) :=
 (Zl (t 1)).bind fun c2 =>
 let H1:=H.set (n) (some (.row c2 0 true))
 (Za 0 (ptr (n) 0)).bind fun v3 =>
 (ld false 1 v3 H1).bind fun v4 =>
 (lenV false v4).bind fun v5 =>
 (mks (n+5) 1 8 [.int .i64 0] v5 v5 H1).bind fun p6 =>
 (ld true 1 (ptr (n) 0) p6.2).bind fun v7 =>
 (C 143 [v7,t 2] p6.2 (n+11)).bind fun q8 =>
 (Za 0 (ptr (n) 0)).bind fun v9 =>
 (ld false 1 v9 q8.2.1).bind fun v10 =>
 (lenV false v10).bind fun v11 =>
 (L (S126L0 C L) (put (put (put (put (put (put (put (put (put (put (put (put (put (put (put t 4 (ptr (n) 0)) 6 nilS) 11 v3) 12 v4) 13 v5) 14 p6.1) 7 p6.1) 15 v7) 16 (t 2)) 17 q8.1) 8 q8.1) 18 v9) 19 v10) 20 v11) 21 (.int .i64 0)) q8.2.1 (q8.2.2+4)).bind fun (o12:Out) =>
 some (o12.t 7,o12.H,o12.n+2)
theorem s126 (C:Zb) (L:Zc→Zc) (t:Tm) (H:Hp) (n:Nat):Zo Tryz.prog C L Tryz.f126 t H n=S126 C L t H n:=by kernel_rfl
theorem c126 (args:List Value) (H:Hp) (n:Nat):Call Tryz.prog 126 args H n=S126 (Call Tryz.prog) Zi (Zm args) H n:=(Ze Tryz.func126 args H n).trans (s126 ..)
noncomputable def S127L0 (C:Zb) (L:Zc→Zc):Zc:=fun t H n =>
 (Zd .plain .gtr (t 2) (.int .i64 0)).bind fun v2 =>
 csel v2
 ((Zg (t 0)).bind fun v3 =>
 (Za 0 v3).bind fun v4 =>
 (Za 0 v4).bind fun v5 =>
 (Za 0 v5).bind fun v6 =>
 (ld false 1 v6 H).bind fun v7 =>
 (Zn 5 v7 (t 1)).bind fun v8 =>
 (Za 0 v8).bind fun v9 =>
 (ld false 1 v9 H).bind fun v10 =>
 (Zd .plain .neq v10 (.int .i64 5)).bind fun v11 =>
 csel v11
 (some ⟨.ret,put (put (put (put (put (put (put (put (put (put (put (put (put (put (put t 8 (t 2)) 9 v2) 12 (t 0)) 13 v3) 14 v4) 15 v5) 16 v6) 17 v7) 18 (t 1)) 19 v8) 20 v9) 21 v10) 22 v11) 6 (.int .i64 0)) 7 (.bool false),H,n+15⟩)
 ((Zg (t 0)).bind fun v12 =>
 (Za 0 v12).bind fun v13 =>
 (Za 0 v13).bind fun v14 =>
 (Za 0 v14).bind fun v15 =>
 (ld false 1 v15 H).bind fun v16 =>
 (Zn 5 v16 (t 1)).bind fun v17 =>
 (Za 4 v17).bind fun v18 =>
 (ld false 1 v18 H).bind fun v19 =>
 (Zd .plain .sub (t 2) (.int .i64 1)).bind fun v20 =>
 some ⟨.normal,put (put (put (put (put (put (put (put (put (put (put (put (put (put (put (put (put (put (put (put (put (put (put (put (put (put (put t 8 (t 2)) 9 v2) 12 (t 0)) 13 v3) 14 v4) 15 v5) 16 v6) 17 v7) 18 (t 1)) 19 v8) 20 v9) 21 v10) 22 v11) 23 (t 0)) 24 v12) 25 v13) 26 v14) 27 v15) 28 v16) 29 (t 1)) 30 v17) 31 v18) 32 v19) 1 v19) 10 (t 2)) 11 v20) 2 v20,H,n+27⟩))
 (some ⟨(.exit 0),put (put t 8 (t 2)) 9 v2,H,n+2⟩)
noncomputable def S127 (C:Zb) (L:Zc→Zc) (t:Tm) (H:Hp) (n:Nat):Option (Value × Hp × Nat) :=
 (L (S127L0 C L) (put (put t 6 (.int .i64 0)) 7 (.bool false)) H (n+2)).bind fun (o1:Out) =>
 let o21:=outOf 0 o1
 thenK o21
 ((Zg (o21.t 0)).bind fun v22 =>
 (Za 0 v22).bind fun v23 =>
 (Za 0 v23).bind fun v24 =>
 (Za 0 v24).bind fun v25 =>
 (ld false 1 v25 o21.H).bind fun v26 =>
 (Zn 5 v26 (o21.t 1)).bind fun v27 =>
 (Za 0 v27).bind fun v28 =>
 (ld false 1 v28 o21.H).bind fun v29 =>
 (Zd .plain .neq v29 (.int .i64 5)).bind fun v30 =>
 csel v30
 (iteK ([.int .i64 0,.bool false].all notTup) <|
 some (.tuple ⟨[.int .i64 0,.bool false]⟩,o21.H,o21.n+13))
 ((Zg (o21.t 0)).bind fun v31 =>
 (Za 0 v31).bind fun v32 =>
 (Za 0 v32).bind fun v33 =>
 (Za 0 v33).bind fun v34 =>
 (ld false 1 v34 o21.H).bind fun v35 =>
 (Zn 5 v35 (o21.t 1)).bind fun v36 =>
 (Za 3 v36).bind fun v37 =>
 (ld false 1 v37 o21.H).bind fun v38 =>
 iteK ([v38,.bool true].all notTup) <|
 some (.tuple ⟨[v38,.bool true]⟩,o21.H,o21.n+23)))
 (finE o21.e
 (iteK ([o21.t 6,o21.t 7].all notTup) <|
 some (.tuple ⟨[o21.t 6,o21.t 7]⟩,o21.H,o21.n)))
theorem s127 (C:Zb) (L:Zc→Zc) (t:Tm) (H:Hp) (n:Nat):Zo Tryz.prog C L Tryz.f127 t H n=S127 C L t H n:=by kernel_rfl
theorem c127 (args:List Value) (H:Hp) (n:Nat):Call Tryz.prog 127 args H n=S127 (Call Tryz.prog) Zi (Zm args) H n:=(Ze Tryz.func127 args H n).trans (s127 ..)
noncomputable def S128 (C:Zb) (L:Zc→Zc) (t:Tm) (H:Hp) (n:Nat):Option (Value × Hp × Nat) :=
 (C 145 [] H (n+6)).bind fun q1 =>
 (C 144 [q1.1,t 0] q1.2.1 (q1.2.2)).bind fun q2 =>
 (Zd .plain .add q2.1 (.int .i64 1)).bind fun v3 =>
 some (v3,q2.2.1,q2.2.2)
theorem s128 (C:Zb) (L:Zc→Zc) (t:Tm) (H:Hp) (n:Nat):Zo Tryz.prog C L Tryz.f128 t H n=S128 C L t H n:=by kernel_rfl
theorem c128 (args:List Value) (H:Hp) (n:Nat):Call Tryz.prog 128 args H n=S128 (Call Tryz.prog) Zi (Zm args) H n:=(Ze Tryz.func128 args H n).trans (s128 ..)
noncomputable def S135 (C:Zb) (L:Zc→Zc) (t:Tm) (H:Hp) (n:Nat):Option (Value × Hp × Nat) :=
 (C 151 [t 0,t 1] H (n+6)).bind fun q1 =>
 (Zd .plain .geq q1.1 (.int .i64 0)).bind fun v2 =>
 some (v2,q1.2.1,q1.2.2)
theorem s135 (C:Zb) (L:Zc→Zc) (t:Tm) (H:Hp) (n:Nat):Zo Tryz.prog C L Tryz.f135 t H n=S135 C L t H n:=by kernel_rfl
theorem c135 (args:List Value) (H:Hp) (n:Nat):Call Tryz.prog 135 args H n=S135 (Call Tryz.prog) Zi (Zm args) H n:=(Ze Tryz.func135 args H n).trans (s135 ..)
noncomputable def S136 (C:Zb) (L:Zc→Zc) (t:Tm) (H:Hp) (n:Nat):Option (Value × Hp × Nat) :=
 (bsl (n+1) 1 20 [.string ⟨#[]⟩] [(0,1,.string ⟨#[]⟩),(1,1,.string ⟨#[43]⟩),(2,1,.string ⟨#[45]⟩),(3,1,.string ⟨#[42]⟩),(4,1,.string ⟨#[60]⟩),(5,1,.string ⟨#[61]⟩),(6,1,.string ⟨#[99,111,110,115]⟩),(7,1,.string ⟨#[99,97,114]⟩),(8,1,.string ⟨#[99,100,114]⟩),(9,1,.string ⟨#[110,117,108,108,63]⟩),(10,1,.string ⟨#[112,97,105,114,63]⟩),(11,1,.string ⟨#[101,113,63]⟩),(12,1,.string ⟨#[110,111,116]⟩),(13,1,.string ⟨#[112,114,105,110,116]⟩),(14,1,.string ⟨#[115,101,108,102]⟩),(15,1,.string ⟨#[115,101,110,100]⟩),(16,1,.string ⟨#[114,101,99,118]⟩),(17,1,.string ⟨#[115,112,97,119,110]⟩),(18,1,.string ⟨#[99,97,108,108,99,99]⟩),(19,1,.string ⟨#[103,111]⟩)] H).bind fun p1 =>
 some (p1.1,p1.2,n+3)
theorem s136 (C:Zb) (L:Zc→Zc) (t:Tm) (H:Hp) (n:Nat):Zo Tryz.prog C L Tryz.f136 t H n=S136 C L t H n:=by kernel_rfl
theorem c136 (args:List Value) (H:Hp) (n:Nat):Call Tryz.prog 136 args H n=S136 (Call Tryz.prog) Zi (Zm args) H n:=(Ze Tryz.func136 args H n).trans (s136 ..)
noncomputable def S137L0 (C:Zb) (L:Zc→Zc):Zc:=fun t H n =>
 (Zd .plain .geq (t 6) (.int .i64 0)).bind fun v6 =>
 csel v6
 ((Zn 1 (t 1) (t 6)).bind fun v7 =>
 (ld false 1 v7 H).bind fun v8 =>
 (bld [.int .i64 0,.int .i64 0,.string ⟨#[]⟩,.int .i64 0,.int .i64 0] [(0,1,.int .i64 5),(3,1,v8),(4,1,t 5)]).bind fun v9 =>
 (C 88 [t 0,v9] H (n+11)).bind fun q10 =>
 (Zd .plain .sub (t 6) (.int .i64 1)).bind fun v11 =>
 some ⟨.normal,put (put (put (put (put (put (put (put (put (put (put (put (put (put t 13 (t 6)) 14 v6) 17 (t 0)) 18 (t 1)) 19 (t 6)) 20 v7) 21 v8) 22 (t 5)) 23 v9) 24 q10.1) 5 q10.1) 15 (t 6)) 16 v11) 6 v11,q10.2.1,q10.2.2+3⟩)
 (some ⟨(.exit 0),put (put t 13 (t 6)) 14 v6,H,n+2⟩)
noncomputable def S137 (C:Zb) (L:Zc→Zc) (t:Tm) (H:Hp) (n:Nat):Option (Value × Hp × Nat) :=
 (bld [.int .i64 0,.int .i64 0,.string ⟨#[]⟩,.int .i64 0,.int .i64 0] [(0,1,.int .i64 1)]).bind fun v1 =>
 (C 88 [t 0,v1] H (n+5)).bind fun q2 =>
 (lenV false (t 1)).bind fun v3 =>
 (Zd .plain .sub v3 (.int .i64 1)).bind fun v4 =>
 (L (S137L0 C L) (put (put (put (put (put (put (put (put (put t 4 (.int .i64 0)) 7 (t 0)) 8 v1) 9 q2.1) 5 q2.1) 10 (t 1)) 11 v3) 12 v4) 6 v4) q2.2.1 (q2.2.2+4)).bind fun (o5:Out) =>
 some (o5.t 5,o5.H,o5.n+2)
theorem s137 (C:Zb) (L:Zc→Zc) (t:Tm) (H:Hp) (n:Nat):Zo Tryz.prog C L Tryz.f137 t H n=S137 C L t H n:=by kernel_rfl
theorem c137 (args:List Value) (H:Hp) (n:Nat):Call Tryz.prog 137 args H n=S137 (Call Tryz.prog) Zi (Zm args) H n:=(Ze Tryz.func137 args H n).trans (s137 ..)
noncomputable def S138 (C:Zb) (L:Zc→Zc) (t:Tm) (H:Hp) (n:Nat):Option (Value × Hp × Nat) :=
 (Zl (t 0)).bind fun c2 =>
 let H1:=H.set (n) (some (.row c2 0 true))
 (lenV false (t 3)).bind fun v3 =>
 (C 152 [t 2] H1 (n+7)).bind fun q4 =>
 (Zd .plain .neq v3 q4.1).bind fun v5 =>
 csel v5
 (some (.int .i64 2,q4.2.1,q4.2.2+1))
 ((Zd .plain .eql (t 2) (.int .i64 18)).bind fun v6 =>
 csel v6
 ((Zg (t 1)).bind fun v7 =>
 (Za 0 v7).bind fun v8 =>
 (bld [.int .i64 0,.int .i64 0,.string ⟨#[]⟩,.int .i64 0,.int .i64 0] [(0,1,.int .i64 3),(1,1,t 4)]).bind fun v9 =>
 (C 88 [v8,v9] q4.2.1 (q4.2.2+10)).bind fun q10 =>
 (Zg (t 1)).bind fun v11 =>
 (Za 0 v11).bind fun v12 =>
 (Zg (t 1)).bind fun v13 =>
 (Za 2 v13).bind fun v14 =>
 (ld false 1 v14 q10.2.1).bind fun v15 =>
 (Zg (t 1)).bind fun v16 =>
 (Za 3 v16).bind fun v17 =>
 (ld false 1 v17 q10.2.1).bind fun v18 =>
 (Zg (t 1)).bind fun v19 =>
 (Za 4 v19).bind fun v20 =>
 (ld false 1 v20 q10.2.1).bind fun v21 =>
 (bsl (q10.2.2+16) 1 4 [.int .i64 0] [(0,1,q10.1),(1,1,v15),(2,1,v18),(3,1,v21)] q10.2.1).bind fun p22 =>
 (C 137 [v12,p22.1] p22.2 (q10.2.2+19)).bind fun q23 =>
 (Zg (t 1)).bind fun v24 =>
 (Za 0 v24).bind fun v25 =>
 (bld [.int .i64 0,.int .i64 0,.string ⟨#[]⟩,.int .i64 0,.int .i64 0] [(0,1,.int .i64 7),(3,1,q23.1)]).bind fun v26 =>
 (C 88 [v25,v26] q23.2.1 (q23.2.2+7)).bind fun q27 =>
 (ld true 3 (ptr (n) 0) q27.2.1).bind fun v28 =>
 (Zn 1 (t 3) (.int .i64 0)).bind fun v29 =>
 (ld false 1 v29 q27.2.1).bind fun v30 =>
 (bsl (q27.2.2+6) 1 1 [.int .i64 0] [(0,1,q27.1)] q27.2.1).bind fun p31 =>
 (C 120 [v28,t 1,v30,p31.1,t 4] p31.2 (q27.2.2+10)).bind fun q32 =>
 some (q32.1,q32.2.1,q32.2.2))
 ((Zd .plain .gtr (t 2) (.int .i64 12)).bind fun v33 =>
 csel v33
 ((Zg (t 1)).bind fun v34 =>
 (Za 0 v34).bind fun v35 =>
 (C 137 [v35,t 3] q4.2.1 (q4.2.2+15)).bind fun q36 =>
 (Zg (t 1)).bind fun v37 =>
 (Za 7 v37).bind fun v38 =>
 (st false 1 v38 q36.1 q36.2.1).bind fun H39 =>
 (Zg (t 1)).bind fun v40 =>
 (Za 5 v40).bind fun v41 =>
 (st false 1 v41 (.int .i64 1) H39).bind fun H42 =>
 (Zg (t 1)).bind fun v43 =>
 (Za 6 v43).bind fun v44 =>
 (st false 1 v44 (t 2) H42).bind fun H45 =>
 some (.int .i64 0,H45,q36.2.2+10))
 ((Zg (t 1)).bind fun v46 =>
 (Za 0 v46).bind fun v47 =>
 (C 153 [v47,t 2,t 3] q4.2.1 (q4.2.2+17)).bind fun q48 =>
 (ext 0 q48.1).bind fun v49 =>
 (ext 1 q48.1).bind fun v50 =>
 (Zd .plain .eql v50 (.int .i64 3)).bind fun v51 =>
 csel v51
 (some (.int .i64 4,q48.2.1,q48.2.2+4))
 ((Zd .plain .eql v50 (.int .i64 4)).bind fun v52 =>
 csel v52
 (some (.int .i64 5,q48.2.1,q48.2.2+6))
 ((C 83 [t 1,v49] q48.2.1 (q48.2.2+8)).bind fun q53 =>
 (Zg (t 1)).bind fun v54 =>
 (Za 1 v54).bind fun v55 =>
 (st false 1 v55 (t 4) q53.2.1).bind fun H56 =>
 some (.int .i64 0,H56,q53.2.2+6))))))
theorem s138 (C:Zb) (L:Zc→Zc) (t:Tm) (H:Hp) (n:Nat):Zo Tryz.prog C L Tryz.f138 t H n=S138 C L t H n:=by kernel_rfl
theorem c138 (args:List Value) (H:Hp) (n:Nat):Call Tryz.prog 138 args H n=S138 (Call Tryz.prog) Zi (Zm args) H n:=(Ze Tryz.func138 args H n).trans (s138 ..)
noncomputable def S139L0 (C:Zb) (L:Zc→Zc):Zc:=fun t H n =>
 (Za 0 (t 2)).bind fun v5 =>
 (ld false 1 v5 H).bind fun v6 =>
 (Zn 5 v6 (t 1)).bind fun v7 =>
 (Za 0 v7).bind fun v8 =>
 (ld false 1 v8 H).bind fun v9 =>
 (Zd .plain .eql v9 (.int .i64 5)).bind fun v10 =>
 csel v10
 ((Za 0 (t 2)).bind fun v11 =>
 (ld false 1 v11 H).bind fun v12 =>
 (Zn 5 v12 (t 1)).bind fun v13 =>
 (Za 3 v13).bind fun v14 =>
 (ld false 1 v14 H).bind fun v15 =>
 (bsl (n+14) 1 1 [.int .i64 0] [(0,1,v15)] H).bind fun p16 =>
 (app (n+15) 1 8 (t 6) p16.1 p16.2).bind fun p17 =>
 (Za 0 (t 2)).bind fun v18 =>
 (ld false 1 v18 p17.2).bind fun v19 =>
 (Zn 5 v19 (t 1)).bind fun v20 =>
 (Za 4 v20).bind fun v21 =>
 (ld false 1 v21 p17.2).bind fun v22 =>
 some ⟨.normal,put (put (put (put (put (put (put (put (put (put (put (put (put (put (put (put (put (put (put (put (put (put (put (put t 8 v5) 9 v6) 10 (t 1)) 11 v7) 12 v8) 13 v9) 14 v10) 15 (t 6)) 16 v11) 17 v12) 18 (t 1)) 19 v13) 20 v14) 21 v15) 22 p16.1) 23 p17.1) 6 p17.1) 24 v18) 25 v19) 26 (t 1)) 27 v20) 28 v21) 29 v22) 1 v22,p17.2,n+24⟩)
 (some ⟨(.exit 0),put (put (put (put (put (put (put t 8 v5) 9 v6) 10 (t 1)) 11 v7) 12 v8) 13 v9) 14 v10,H,n+7⟩)
noncomputable def S139 (C:Zb) (L:Zc→Zc) (t:Tm) (H:Hp) (n:Nat):Option (Value × Hp × Nat) :=
 (Zl (t 0)).bind fun c2 =>
 let H1:=H.set (n) (some (.row c2 0 true))
 (bsl (n+3) 1 0 [.int .i64 0] [] H1).bind fun p3 =>
 (L (S139L0 C L) (put (put (put (put (put t 2 (ptr (n) 0)) 4 nilS) 5 (.bool false)) 7 p3.1) 6 p3.1) p3.2 (n+5)).bind fun (o4:Out) =>
 (Za 0 (o4.t 2)).bind fun v23 =>
 (ld false 1 v23 o4.H).bind fun v24 =>
 (Zn 5 v24 (o4.t 1)).bind fun v25 =>
 (Za 0 v25).bind fun v26 =>
 (ld false 1 v26 o4.H).bind fun v27 =>
 (Zd .plain .neq v27 (.int .i64 1)).bind fun v28 =>
 csel v28
 ((bsl (o4.n+7) 1 0 [.int .i64 0] [] o4.H).bind fun p29 =>
 iteK ([p29.1,.bool false].all notTup) <|
 some (.tuple ⟨[p29.1,.bool false]⟩,p29.2,o4.n+10))
 (iteK ([o4.t 6,.bool true].all notTup) <|
 some (.tuple ⟨[o4.t 6,.bool true]⟩,o4.H,o4.n+10))
theorem s139 (C:Zb) (L:Zc→Zc) (t:Tm) (H:Hp) (n:Nat):Zo Tryz.prog C L Tryz.f139 t H n=S139 C L t H n:=by kernel_rfl
theorem c139 (args:List Value) (H:Hp) (n:Nat):Call Tryz.prog 139 args H n=S139 (Call Tryz.prog) Zi (Zm args) H n:=(Ze Tryz.func139 args H n).trans (s139 ..)
noncomputable def S140L0 (C:Zb) (L:Zc→Zc):Zc:=fun t H n =>
 (Zd .plain .geq (t 6) (.int .i64 0)).bind fun v6 =>
 csel v6
 ((Zn 1 (t 1) (t 6)).bind fun v7 =>
 (ld false 1 v7 H).bind fun v8 =>
 (C 125 [t 0,v8,t 5] H (n+10)).bind fun q9 =>
 (Zd .plain .sub (t 6) (.int .i64 1)).bind fun v10 =>
 some ⟨.normal,put (put (put (put (put (put (put (put (put (put (put (put (put t 13 (t 6)) 14 v6) 17 (t 0)) 18 (t 1)) 19 (t 6)) 20 v7) 21 v8) 22 (t 5)) 23 q9.1) 5 q9.1) 15 (t 6)) 16 v10) 6 v10,q9.2.1,q9.2.2+3⟩)
 (some ⟨(.exit 0),put (put t 13 (t 6)) 14 v6,H,n+2⟩)
noncomputable def S140 (C:Zb) (L:Zc→Zc) (t:Tm) (H:Hp) (n:Nat):Option (Value × Hp × Nat) :=
 (bld [.int .i64 0,.int .i64 0,.string ⟨#[]⟩,.int .i64 0,.int .i64 0] [(0,1,.int .i64 1)]).bind fun v1 =>
 (C 101 [t 0,v1] H (n+5)).bind fun q2 =>
 (lenV false (t 1)).bind fun v3 =>
 (Zd .plain .sub v3 (.int .i64 1)).bind fun v4 =>
 (L (S140L0 C L) (put (put (put (put (put (put (put (put (put t 4 (.int .i64 0)) 7 (t 0)) 8 v1) 9 q2.1) 5 q2.1) 10 (t 1)) 11 v3) 12 v4) 6 v4) q2.2.1 (q2.2.2+4)).bind fun (o5:Out) =>
 some (o5.t 5,o5.H,o5.n+2)
theorem s140 (C:Zb) (L:Zc→Zc) (t:Tm) (H:Hp) (n:Nat):Zo Tryz.prog C L Tryz.f140 t H n=S140 C L t H n:=by kernel_rfl
theorem c140 (args:List Value) (H:Hp) (n:Nat):Call Tryz.prog 140 args H n=S140 (Call Tryz.prog) Zi (Zm args) H n:=(Ze Tryz.func140 args H n).trans (s140 ..)
noncomputable def S141 (C:Zb) (L:Zc→Zc) (t:Tm) (H:Hp) (n:Nat):Option (Value × Hp × Nat) :=
 (C 43 [t 0,.int .i64 1,.int .i64 19] H (n+4)).bind fun q1 =>
 (un .not q1.1).bind fun v2 =>
 csel v2
 (some (.int .i64 (-1),q1.2.1,q1.2.2+1))
 ((bsl (q1.2.2) 1 19 [.int .i64 0] [(0,1,.int .i64 2),(1,1,.int .i64 2),(2,1,.int .i64 2),(3,1,.int .i64 2),(4,1,.int .i64 2),(5,1,.int .i64 2),(6,1,.int .i64 1),(7,1,.int .i64 1),(8,1,.int .i64 1),(9,1,.int .i64 1),(10,1,.int .i64 2),(11,1,.int .i64 1),(12,1,.int .i64 1),(13,1,.int .i64 0),(14,1,.int .i64 2),(15,1,.int .i64 0),(16,1,.int .i64 1),(17,1,.int .i64 1),(18,1,.int .i64 1)] q1.2.1).bind fun p3 =>
 (Zd .plain .sub (t 0) (.int .i64 1)).bind fun v4 =>
 (Zn 1 p3.1 v4).bind fun v5 =>
 (ld false 1 v5 p3.2).bind fun v6 =>
 some (v6,p3.2,q1.2.2+6))
theorem s141 (C:Zb) (L:Zc→Zc) (t:Tm) (H:Hp) (n:Nat):Zo Tryz.prog C L Tryz.f141 t H n=S141 C L t H n:=by kernel_rfl
theorem c141 (args:List Value) (H:Hp) (n:Nat):Call Tryz.prog 141 args H n=S141 (Call Tryz.prog) Zi (Zm args) H n:=(Ze Tryz.func141 args H n).trans (s141 ..)
noncomputable def S142L0 (C:Zb) (L:Zc→Zc):Zc:=fun t H n =>
 (Zd .plain .lss (t 13) (t 12)).bind fun v3 =>
 csel v3
 ((Zn 1 (t 11) (t 13)).bind fun v4 =>
 (ld false 1 v4 H).bind fun v5 =>
 (Zd .plain .leq (t 1) (.int .i64 5)).bind fun v6 =>
 let t8:Tm:=put (put (put (put (put (put (put t 14 v3) 15 v4) 16 v5) 9 v5) 17 (t 1)) 18 v6) 19 v6
 (gsel v6 true
 ((Zg (t8 0)).bind fun v9 =>
 (Za 0 v9).bind fun v10 =>
 (ld false 1 v10 H).bind fun v11 =>
 (Zn 5 v11 v5).bind fun v12 =>
 (Za 0 v12).bind fun v13 =>
 (ld false 1 v13 H).bind fun v14 =>
 (Zd .plain .neq v14 (.int .i64 3)).bind fun v15 =>
 some (put (put (put (put (put (put (put (put (put t8 20 (t8 0)) 21 v9) 22 v10) 23 v11) 24 v5) 25 v12) 26 v13) 27 v14) 28 v15,H,n+36))
 (some (put (put (put (put (put (put (put (put (put t8 20 (.tuple #[])) 21 (.tuple #[])) 22 (.tuple #[])) 23 (.tuple #[])) 24 (.tuple #[])) 25 (.tuple #[])) 26 (.tuple #[])) 27 (.tuple #[])) 28 (.tuple #[]),H,n+36))
 ).bind fun (q7:R3) =>
 (Zr (q7.1 19) (q7.1 28) (.bool false)).bind fun v16 =>
 let t18:Tm:=put (put q7.1 29 v16) 30 v16
 (gsel v16 false
 ((Zd .plain .eql (t18 1) (.int .i64 7)).bind fun v19 =>
 some (put (put (put t18 31 (t18 1)) 32 v19) 33 v19,q7.2.1,q7.2.2))
 (some (put (put (put t18 31 (.tuple #[])) 32 (.tuple #[])) 33 (.tuple #[]),q7.2.1,q7.2.2))
 ).bind fun (q17:R3) =>
 let t21:Tm:=q17.1
 (gsel (q17.1 33) false
 ((Zd .plain .eql (t21 1) (.int .i64 8)).bind fun v22 =>
 some (put (put t21 34 (t21 1)) 35 v22,q17.2.1,q17.2.2))
 (some (put (put t21 34 (.tuple #[])) 35 (.tuple #[]),q17.2.1,q17.2.2))
 ).bind fun (q20:R3) =>
 let t24:Tm:=q20.1
 (gsel (q20.1 30) false
 ((Zr (t24 33) (.bool true) (t24 35)).bind fun v25 =>
 some (put (put t24 36 v25) 37 v25,q20.2.1,q20.2.2))
 (some (put (put t24 36 (.tuple #[])) 37 (.tuple #[]),q20.2.1,q20.2.2))
 ).bind fun (q23:R3) =>
 let t27:Tm:=q23.1
 (gsel (q23.1 37) true
 ((Zg (t27 0)).bind fun v28 =>
 (Za 0 v28).bind fun v29 =>
 (ld false 1 v29 q23.2.1).bind fun v30 =>
 (Zn 5 v30 (t27 9)).bind fun v31 =>
 (Za 0 v31).bind fun v32 =>
 (ld false 1 v32 q23.2.1).bind fun v33 =>
 (Zd .plain .neq v33 (.int .i64 5)).bind fun v34 =>
 some (put (put (put (put (put (put (put (put (put t27 38 (t27 0)) 39 v28) 40 v29) 41 v30) 42 (t27 9)) 43 v31) 44 v32) 45 v33) 46 v34,q23.2.1,q23.2.2))
 (some (put (put (put (put (put (put (put (put (put t27 38 (.tuple #[])) 39 (.tuple #[])) 40 (.tuple #[])) 41 (.tuple #[])) 42 (.tuple #[])) 43 (.tuple #[])) 44 (.tuple #[])) 45 (.tuple #[])) 46 (.tuple #[]),q23.2.1,q23.2.2))
 ).bind fun (q26:R3) =>
 let t36:Tm:=q26.1
 (gsel (q26.1 30) false
 ((Zr (t36 37) (t36 46) (.bool false)).bind fun v37 =>
 some (put t36 47 v37,q26.2.1,q26.2.2))
 (some (put t36 47 (.tuple #[]),q26.2.1,q26.2.2))
 ).bind fun (q35:R3) =>
 (Zr (q35.1 30) (.bool true) (q35.1 47)).bind fun v38 =>
 csel v38
 (some ⟨.ret,put (put (put q35.1 48 v38) 6 (.int .i64 (-1))) 7 (.int .i64 3),q35.2.1,q35.2.2+2⟩)
 ((Zd .plain .add (q35.1 13) (.int .i64 1)).bind fun v39 =>
 some ⟨.normal,put (put (put q35.1 48 v38) 49 v39) 13 v39,q35.2.1,q35.2.2+2⟩))
 (some ⟨(.exit 0),put t 14 v3,H,n+1⟩)
noncomputable def S142 (C:Zb) (L:Zc→Zc) (t:Tm) (H:Hp) (n:Nat):Option (Value × Hp × Nat) :=
 (lenV false (t 2)).bind fun v1 =>
 (L (S142L0 C L) (put (put (put (put (put t 6 (.int .i64 0)) 7 (.int .i64 0)) 11 (t 2)) 12 v1) 13 (.int .i64 0)) H (n+5)).bind fun (o2:Out) =>
 let o40:=outOf 0 o2
 thenK o40
 ((Zd .plain .eql (o40.t 1) (.int .i64 7)).bind fun v41 =>
 csel v41
 ((Zg (o40.t 0)).bind fun v42 =>
 (Za 0 v42).bind fun v43 =>
 (ld false 1 v43 o40.H).bind fun v44 =>
 (Zn 1 (o40.t 2) (.int .i64 0)).bind fun v45 =>
 (ld false 1 v45 o40.H).bind fun v46 =>
 (Zn 5 v44 v46).bind fun v47 =>
 (Za 3 v47).bind fun v48 =>
 (ld false 1 v48 o40.H).bind fun v49 =>
 iteK ([v49,.int .i64 0].all notTup) <|
 some (.tuple ⟨[v49,.int .i64 0]⟩,o40.H,o40.n+15))
 ((Zd .plain .eql (o40.t 1) (.int .i64 8)).bind fun v50 =>
 csel v50
 ((Zg (o40.t 0)).bind fun v51 =>
 (Za 0 v51).bind fun v52 =>
 (ld false 1 v52 o40.H).bind fun v53 =>
 (Zn 1 (o40.t 2) (.int .i64 0)).bind fun v54 =>
 (ld false 1 v54 o40.H).bind fun v55 =>
 (Zn 5 v53 v55).bind fun v56 =>
 (Za 4 v56).bind fun v57 =>
 (ld false 1 v57 o40.H).bind fun v58 =>
 iteK ([v58,.int .i64 0].all notTup) <|
 some (.tuple ⟨[v58,.int .i64 0]⟩,o40.H,o40.n+17))
 ((Zg (o40.t 0)).bind fun v59 =>
 (ld true 1 v59 o40.H).bind fun v60 =>
 (C 154 [v60,o40.t 1,o40.t 2] o40.H (o40.n+13)).bind fun q61 =>
 let H62:=q61.2.1.set (o40.n+11) (some (.row [.int .i64 0,.int .i64 0,.string ⟨#[]⟩,.int .i64 0,.int .i64 0] 0 true))
 (st true 5 (ptr (o40.n+11) 0) q61.1 H62).bind fun H63 =>
 (Za 1 (ptr (o40.n+11) 0)).bind fun v64 =>
 (ld false 1 v64 H63).bind fun v65 =>
 (C 43 [v65,.int .i64 (-1000000000),.int .i64 1000000000] H63 (q61.2.2+4)).bind fun q66 =>
 (un .not q66.1).bind fun v67 =>
 csel v67
 (iteK ([.int .i64 (-1),.int .i64 4].all notTup) <|
 some (.tuple ⟨[.int .i64 (-1),.int .i64 4]⟩,q66.2.1,q66.2.2+2))
 ((ld true 5 (ptr (o40.n+11) 0) q66.2.1).bind fun v68 =>
 (C 101 [o40.t 0,v68] q66.2.1 (q66.2.2+5)).bind fun q69 =>
 iteK ([q69.1,.int .i64 0].all notTup) <|
 some (.tuple ⟨[q69.1,.int .i64 0]⟩,q69.2.1,q69.2.2)))))
 (finE o40.e
 (iteK ([o40.t 6,o40.t 7].all notTup) <|
 some (.tuple ⟨[o40.t 6,o40.t 7]⟩,o40.H,o40.n)))
theorem s142 (C:Zb) (L:Zc→Zc) (t:Tm) (H:Hp) (n:Nat):Zo Tryz.prog C L Tryz.f142 t H n=S142 C L t H n:=by kernel_rfl
theorem c142 (args:List Value) (H:Hp) (n:Nat):Call Tryz.prog 142 args H n=S142 (Call Tryz.prog) Zi (Zm args) H n:=(Ze Tryz.func142 args H n).trans (s142 ..)
noncomputable def S143L1 (C:Zb) (L:Zc→Zc):Zc:=fun t H n =>
 (Zd .plain .geq (t 8) (.int .i64 0)).bind fun v20 =>
 csel v20
 (let t22:Tm:=put (put t 28 (t 8)) 29 v20
 Option.bind
 ((Zn 1 (t22 5) (t22 8)).bind fun v23 =>
 (ld false 1 v23 H).bind fun v24 =>
 (un .not v24).bind fun v25 =>
 csel v25
 (some ⟨(.exit 3),put (put (put (put (put t22 32 (t22 5)) 33 (t22 8)) 34 v23) 35 v24) 36 v25,H,n+7⟩)
 ((Za 0 (t22 2)).bind fun v26 =>
 (ld false 1 v26 H).bind fun v27 =>
 (Zn 5 v27 (t22 8)).bind fun v28 =>
 (ld true 5 v28 H).bind fun v29 =>
 let H30:=H.set (n+12) (some (.row [.int .i64 0,.int .i64 0,.string ⟨#[]⟩,.int .i64 0,.int .i64 0] 0 true))
 (st true 5 (ptr (n+12) 0) v29 H30).bind fun H31 =>
 (Za 0 (ptr (n+12) 0)).bind fun v32 =>
 (ld false 1 v32 H31).bind fun v33 =>
 (Zd .plain .eql v33 (.int .i64 5)).bind fun v34 =>
 let t36:Tm:=put (put (put (put (put (put (put (put (put (put (put (put (put (put (put t22 32 (t22 5)) 33 (t22 8)) 34 v23) 35 v24) 36 v25) 37 v26) 38 v27) 39 (t22 8)) 40 v28) 41 v29) 9 (ptr (n+12) 0)) 42 v32) 43 v33) 45 v34) 44 v34
 (csel v34
 ((Za 3 (ptr (n+12) 0)).bind fun v37 =>
 (ld false 1 v37 H31).bind fun v38 =>
 (Zn 1 (t36 5) v38).bind fun v39 =>
 (st false 1 v39 (.bool true) H31).bind fun H40 =>
 (Za 4 (ptr (n+12) 0)).bind fun v41 =>
 (ld false 1 v41 H40).bind fun v42 =>
 (Zn 1 (t36 5) v42).bind fun v43 =>
 (st false 1 v43 (.bool true) H40).bind fun H44 =>
 some ⟨.normal,put (put (put (put (put (put (put (put t36 46 (t36 5)) 47 v37) 48 v38) 49 v39) 50 (t36 5)) 51 v41) 52 v42) 53 v43,H44,n+28⟩)
 ((Zd .plain .eql v33 (.int .i64 6)).bind fun v45 =>
 let t47:Tm:=put (put t36 55 v45) 54 v45
 (csel v45
 (some ⟨.normal,t47,H31,n+20⟩)
 ((Zd .plain .eql v33 (.int .i64 7)).bind fun v48 =>
 some ⟨.normal,put (put t47 56 v48) 54 v48,H31,n+22⟩)
 ).bind fun (o46:Out) =>
 (csel (o46.t 54)
 ((Za 3 (o46.t 9)).bind fun v51 =>
 (ld false 1 v51 o46.H).bind fun v52 =>
 (Zn 1 (o46.t 5) v52).bind fun v53 =>
 (st false 1 v53 (.bool true) o46.H).bind fun H54 =>
 some ⟨.normal,put (put (put (put o46.t 57 (o46.t 5)) 58 v51) 59 v52) 60 v53,H54,o46.n+5⟩)
 (some ⟨.normal,o46.t,o46.H,o46.n⟩)
 ).bind fun (o49:Out) =>
 some ⟨.normal,o49.t,o49.H,o49.n⟩)
 ).bind fun (o35:Out) =>
 some ⟨.normal,o35.t,o35.H,o35.n⟩))
 fun (o21:Out) =>
 (Zd .plain .sub (o21.t 8) (.int .i64 1)).bind fun v55 =>
 some ⟨.normal,put (put (put o21.t 30 (o21.t 8)) 31 v55) 8 v55,o21.H,o21.n+3⟩)
 (some ⟨(.exit 2),put (put t 28 (t 8)) 29 v20,H,n+2⟩)
noncomputable def S143L0 (C:Zb) (L:Zc→Zc):Zc:=fun t H n =>
 (Zd .plain .lss (t 16) (t 15)).bind fun v9 =>
 csel v9
 ((Zn 1 (t 14) (t 16)).bind fun v10 =>
 (ld false 1 v10 H).bind fun v11 =>
 (Zn 1 (t 5) v11).bind fun v12 =>
 (st false 1 v12 (.bool true) H).bind fun H13 =>
 (Zd .plain .add (t 16) (.int .i64 1)).bind fun v14 =>
 some ⟨.normal,put (put (put (put (put (put (put (put (put t 17 v9) 18 v10) 19 v11) 7 v11) 20 (t 5)) 21 v11) 22 v12) 23 v14) 16 v14,H13,n+10⟩)
 (some ⟨(.exit 0),put t 17 v9,H,n+1⟩)
noncomputable def S143 (C:Zb) (L:Zc→Zc) (t:Tm) (H:Hp) (n:Nat):Option (Value × Hp × Nat) :=
 (Zl (t 0)).bind fun c2 =>
 let H1:=H.set (n) (some (.row c2 0 true))
 (Za 0 (ptr (n) 0)).bind fun v3 =>
 (ld false 1 v3 H1).bind fun v4 =>
 (lenV false v4).bind fun v5 =>
 (mks (n+5) 1 1 [.bool false] v5 v5 H1).bind fun p6 =>
 (lenV false (t 1)).bind fun v7 =>
 (L (S143L0 C L) (put (put (put (put (put (put (put (put (put (put t 2 (ptr (n) 0)) 4 nilS) 10 v3) 11 v4) 12 v5) 13 p6.1) 5 p6.1) 14 (t 1)) 15 v7) 16 (.int .i64 0)) p6.2 (n+10)).bind fun (o8:Out) =>
 (Za 0 (o8.t 2)).bind fun v15 =>
 (ld false 1 v15 o8.H).bind fun v16 =>
 (lenV false v16).bind fun v17 =>
 (Zd .plain .sub v17 (.int .i64 1)).bind fun v18 =>
 (L (S143L1 C L) (put (put (put (put (put o8.t 24 v15) 25 v16) 26 v17) 27 v18) 8 v18) o8.H (o8.n+5)).bind fun (o19:Out) =>
 some (o19.t 5,o19.H,o19.n+2)
theorem s143 (C:Zb) (L:Zc→Zc) (t:Tm) (H:Hp) (n:Nat):Zo Tryz.prog C L Tryz.f143 t H n=S143 C L t H n:=by kernel_rfl
theorem c143 (args:List Value) (H:Hp) (n:Nat):Call Tryz.prog 143 args H n=S143 (Call Tryz.prog) Zi (Zm args) H n:=(Ze Tryz.func143 args H n).trans (s143 ..)
noncomputable def S144L0 (C:Zb) (L:Zc→Zc):Zc:=fun t H n =>
 (Zd .plain .lss (t 8) (t 7)).bind fun v3 =>
 csel v3
 ((Zn 1 (t 0) (t 8)).bind fun v4 =>
 (ld false 1 v4 H).bind fun v5 =>
 (Zd .plain .eql (t 1) v5).bind fun v6 =>
 csel v6
 (some ⟨.ret,put (put (put (put (put (put (put (put (put (put (put t 9 v3) 10 (t 8)) 5 (t 8)) 11 (t 1)) 12 (t 0)) 13 (t 8)) 14 v4) 15 v5) 16 v6) 17 (t 8)) 4 (t 8),H,n+11⟩)
 ((Zd .plain .add (t 8) (.int .i64 1)).bind fun v7 =>
 some ⟨.normal,put (put (put (put (put (put (put (put (put (put (put t 9 v3) 10 (t 8)) 5 (t 8)) 11 (t 1)) 12 (t 0)) 13 (t 8)) 14 v4) 15 v5) 16 v6) 18 v7) 8 v7,H,n+11⟩))
 (some ⟨(.exit 0),put t 9 v3,H,n+1⟩)
noncomputable def S144 (C:Zb) (L:Zc→Zc) (t:Tm) (H:Hp) (n:Nat):Option (Value × Hp × Nat) :=
 (lenV false (t 0)).bind fun v1 =>
 (L (S144L0 C L) (put (put (put (put t 4 (.int .i64 0)) 6 (t 0)) 7 v1) 8 (.int .i64 0)) H (n+4)).bind fun (o2:Out) =>
 let o8:=outOf 0 o2
 thenK o8
 (some (.int .i64 (-1),o8.H,o8.n+1))
 (finE o8.e
 (some (o8.t 4,o8.H,o8.n)))
theorem s144 (C:Zb) (L:Zc→Zc) (t:Tm) (H:Hp) (n:Nat):Zo Tryz.prog C L Tryz.f144 t H n=S144 C L t H n:=by kernel_rfl
theorem c144 (args:List Value) (H:Hp) (n:Nat):Call Tryz.prog 144 args H n=S144 (Call Tryz.prog) Zi (Zm args) H n:=(Ze Tryz.func144 args H n).trans (s144 ..)
noncomputable def S145 (C:Zb) (L:Zc→Zc) (t:Tm) (H:Hp) (n:Nat):Option (Value × Hp × Nat) :=
 (bsl (n+1) 1 19 [.string ⟨#[]⟩] [(0,1,.string ⟨#[43]⟩),(1,1,.string ⟨#[45]⟩),(2,1,.string ⟨#[42]⟩),(3,1,.string ⟨#[60]⟩),(4,1,.string ⟨#[61]⟩),(5,1,.string ⟨#[99,111,110,115]⟩),(6,1,.string ⟨#[99,97,114]⟩),(7,1,.string ⟨#[99,100,114]⟩),(8,1,.string ⟨#[110,117,108,108,63]⟩),(9,1,.string ⟨#[112,97,105,114,63]⟩),(10,1,.string ⟨#[101,113,63]⟩),(11,1,.string ⟨#[110,111,116]⟩),(12,1,.string ⟨#[112,114,105,110,116]⟩),(13,1,.string ⟨#[115,101,108,102]⟩),(14,1,.string ⟨#[115,101,110,100]⟩),(15,1,.string ⟨#[114,101,99,118]⟩),(16,1,.string ⟨#[115,112,97,119,110]⟩),(17,1,.string ⟨#[99,97,108,108,99,99]⟩),(18,1,.string ⟨#[103,111]⟩)] H).bind fun p1 =>
 some (p1.1,p1.2,n+3)
theorem s145 (C:Zb) (L:Zc→Zc) (t:Tm) (H:Hp) (n:Nat):Zo Tryz.prog C L Tryz.f145 t H n=S145 C L t H n:=by kernel_rfl
theorem c145 (args:List Value) (H:Hp) (n:Nat):Call Tryz.prog 145 args H n=S145 (Call Tryz.prog) Zi (Zm args) H n:=(Ze Tryz.func145 args H n).trans (s145 ..)
noncomputable def S151L0 (C:Zb) (L:Zc→Zc):Zc:=fun t H n =>
 (Zd .plain .lss (t 8) (t 7)).bind fun v3 =>
 csel v3
 ((Zn 1 (t 0) (t 8)).bind fun v4 =>
 (ld false 1 v4 H).bind fun v5 =>
 (Zd .plain .eql (t 1) v5).bind fun v6 =>
 csel v6
 (some ⟨.ret,put (put (put (put (put (put (put (put (put (put (put t 9 v3) 10 (t 8)) 5 (t 8)) 11 (t 1)) 12 (t 0)) 13 (t 8)) 14 v4) 15 v5) 16 v6) 17 (t 8)) 4 (t 8),H,n+11⟩)
 ((Zd .plain .add (t 8) (.int .i64 1)).bind fun v7 =>
 some ⟨.normal,put (put (put (put (put (put (put (put (put (put (put t 9 v3) 10 (t 8)) 5 (t 8)) 11 (t 1)) 12 (t 0)) 13 (t 8)) 14 v4) 15 v5) 16 v6) 18 v7) 8 v7,H,n+11⟩))
 (some ⟨(.exit 0),put t 9 v3,H,n+1⟩)
noncomputable def S151 (C:Zb) (L:Zc→Zc) (t:Tm) (H:Hp) (n:Nat):Option (Value × Hp × Nat) :=
 (lenV false (t 0)).bind fun v1 =>
 (L (S151L0 C L) (put (put (put (put t 4 (.int .i64 0)) 6 (t 0)) 7 v1) 8 (.int .i64 0)) H (n+4)).bind fun (o2:Out) =>
 let o8:=outOf 0 o2
 thenK o8
 (some (.int .i64 (-1),o8.H,o8.n+1))
 (finE o8.e
 (some (o8.t 4,o8.H,o8.n)))
theorem s151 (C:Zb) (L:Zc→Zc) (t:Tm) (H:Hp) (n:Nat):Zo Tryz.prog C L Tryz.f151 t H n=S151 C L t H n:=by kernel_rfl
theorem c151 (args:List Value) (H:Hp) (n:Nat):Call Tryz.prog 151 args H n=S151 (Call Tryz.prog) Zi (Zm args) H n:=(Ze Tryz.func151 args H n).trans (s151 ..)
noncomputable def S152 (C:Zb) (L:Zc→Zc) (t:Tm) (H:Hp) (n:Nat):Option (Value × Hp × Nat) :=
 (C 47 [t 0,.int .i64 1,.int .i64 19] H (n+4)).bind fun q1 =>
 (un .not q1.1).bind fun v2 =>
 csel v2
 (some (.int .i64 (-1),q1.2.1,q1.2.2+1))
 ((bsl (q1.2.2) 1 20 [.int .i64 0] [(0,1,.int .i64 0),(1,1,.int .i64 2),(2,1,.int .i64 2),(3,1,.int .i64 2),(4,1,.int .i64 2),(5,1,.int .i64 2),(6,1,.int .i64 2),(7,1,.int .i64 1),(8,1,.int .i64 1),(9,1,.int .i64 1),(10,1,.int .i64 1),(11,1,.int .i64 2),(12,1,.int .i64 1),(13,1,.int .i64 1),(14,1,.int .i64 0),(15,1,.int .i64 2),(16,1,.int .i64 0),(17,1,.int .i64 1),(18,1,.int .i64 1),(19,1,.int .i64 1)] q1.2.1).bind fun p3 =>
 (Zn 1 p3.1 (t 0)).bind fun v4 =>
 (ld false 1 v4 p3.2).bind fun v5 =>
 some (v5,p3.2,q1.2.2+5))
theorem s152 (C:Zb) (L:Zc→Zc) (t:Tm) (H:Hp) (n:Nat):Zo Tryz.prog C L Tryz.f152 t H n=S152 C L t H n:=by kernel_rfl
theorem c152 (args:List Value) (H:Hp) (n:Nat):Call Tryz.prog 152 args H n=S152 (Call Tryz.prog) Zi (Zm args) H n:=(Ze Tryz.func152 args H n).trans (s152 ..)
noncomputable def S153 (C:Zb) (L:Zc→Zc) (t:Tm) (H:Hp) (n:Nat):Option (Value × Hp × Nat) :=
 (Zg (t 0)).bind fun v1 =>
 (Za 0 v1).bind fun v2 =>
 (ld false 1 v2 H).bind fun v3 =>
 (Zn 1 (t 2) (.int .i64 0)).bind fun v4 =>
 (ld false 1 v4 H).bind fun v5 =>
 (Zn 5 v3 v5).bind fun v6 =>
 (ld true 5 v6 H).bind fun v7 =>
 let H8:=H.set (n+11) (some (.row [.int .i64 0,.int .i64 0,.string ⟨#[]⟩,.int .i64 0,.int .i64 0] 0 true))
 (st true 5 (ptr (n+11) 0) v7 H8).bind fun H9 =>
 (Zd .plain .leq (t 1) (.int .i64 5)).bind fun v10 =>
 csel v10
 ((ld true 5 (ptr (n+11) 0) H9).bind fun v11 =>
 (Zg (t 0)).bind fun v12 =>
 (Za 0 v12).bind fun v13 =>
 (ld false 1 v13 H9).bind fun v14 =>
 (Zn 1 (t 2) (.int .i64 1)).bind fun v15 =>
 (ld false 1 v15 H9).bind fun v16 =>
 (Zn 5 v14 v16).bind fun v17 =>
 (ld true 5 v17 H9).bind fun v18 =>
 (C 160 [t 1,v11,v18] H9 (n+34)).bind fun q19 =>
 (ext 0 q19.1).bind fun v20 =>
 (ext 1 q19.1).bind fun v21 =>
 let H22:=q19.2.1.set (n+31) (some (.row [.int .i64 0,.int .i64 0,.string ⟨#[]⟩,.int .i64 0,.int .i64 0] 0 true))
 (st true 5 (ptr (n+31) 0) v20 H22).bind fun H23 =>
 (Zd .plain .neq v21 (.int .i64 0)).bind fun v24 =>
 csel v24
 (iteK ([.int .i64 (-1),v21].all notTup) <|
 some (.tuple ⟨[.int .i64 (-1),v21]⟩,H23,q19.2.2+5))
 ((ld true 5 (ptr (n+31) 0) H23).bind fun v25 =>
 (C 88 [t 0,v25] H23 (q19.2.2+8)).bind fun q26 =>
 iteK ([q26.1,v21].all notTup) <|
 some (.tuple ⟨[q26.1,v21]⟩,q26.2.1,q26.2.2)))
 ((Zd .plain .eql (t 1) (.int .i64 6)).bind fun v27 =>
 csel v27
 ((Zn 1 (t 2) (.int .i64 0)).bind fun v28 =>
 (ld false 1 v28 H9).bind fun v29 =>
 (Zn 1 (t 2) (.int .i64 1)).bind fun v30 =>
 (ld false 1 v30 H9).bind fun v31 =>
 (bld [.int .i64 0,.int .i64 0,.string ⟨#[]⟩,.int .i64 0,.int .i64 0] [(0,1,.int .i64 5),(3,1,v29),(4,1,v31)]).bind fun v32 =>
 (C 88 [t 0,v32] H9 (n+30)).bind fun q33 =>
 iteK ([q33.1,.int .i64 0].all notTup) <|
 some (.tuple ⟨[q33.1,.int .i64 0]⟩,q33.2.1,q33.2.2))
 ((Zd .plain .leq (t 1) (.int .i64 8)).bind fun v34 =>
 csel v34
 ((Za 0 (ptr (n+11) 0)).bind fun v35 =>
 (ld false 1 v35 H9).bind fun v36 =>
 (Zd .plain .neq v36 (.int .i64 5)).bind fun v37 =>
 csel v37
 (iteK ([.int .i64 (-1),.int .i64 3].all notTup) <|
 some (.tuple ⟨[.int .i64 (-1),.int .i64 3]⟩,H9,n+27))
 ((Zd .plain .eql (t 1) (.int .i64 7)).bind fun v38 =>
 csel v38
 ((Za 3 (ptr (n+11) 0)).bind fun v39 =>
 (ld false 1 v39 H9).bind fun v40 =>
 iteK ([v40,.int .i64 0].all notTup) <|
 some (.tuple ⟨[v40,.int .i64 0]⟩,H9,n+31))
 ((Za 4 (ptr (n+11) 0)).bind fun v41 =>
 (ld false 1 v41 H9).bind fun v42 =>
 iteK ([v42,.int .i64 0].all notTup) <|
 some (.tuple ⟨[v42,.int .i64 0]⟩,H9,n+31))))
 ((Zd .plain .eql (t 1) (.int .i64 9)).bind fun v43 =>
 csel v43
 ((Za 0 (ptr (n+11) 0)).bind fun v44 =>
 (ld false 1 v44 H9).bind fun v45 =>
 (Zd .plain .eql v45 (.int .i64 1)).bind fun v46 =>
 (C 161 [v46] H9 (n+33)).bind fun q47 =>
 (C 88 [t 0,q47.1] q47.2.1 (q47.2.2)).bind fun q48 =>
 iteK ([q48.1,.int .i64 0].all notTup) <|
 some (.tuple ⟨[q48.1,.int .i64 0]⟩,q48.2.1,q48.2.2))
 ((Zd .plain .eql (t 1) (.int .i64 10)).bind fun v49 =>
 csel v49
 ((Za 0 (ptr (n+11) 0)).bind fun v50 =>
 (ld false 1 v50 H9).bind fun v51 =>
 (Zd .plain .eql v51 (.int .i64 5)).bind fun v52 =>
 (C 161 [v52] H9 (n+36)).bind fun q53 =>
 (C 88 [t 0,q53.1] q53.2.1 (q53.2.2)).bind fun q54 =>
 iteK ([q54.1,.int .i64 0].all notTup) <|
 some (.tuple ⟨[q54.1,.int .i64 0]⟩,q54.2.1,q54.2.2))
 ((Zd .plain .eql (t 1) (.int .i64 11)).bind fun v55 =>
 csel v55
 ((Zg (t 0)).bind fun v56 =>
 (ld true 1 v56 H9).bind fun v57 =>
 (C 162 [v57] H9 (n+36)).bind fun q58 =>
 (Zn 1 (t 2) (.int .i64 0)).bind fun v59 =>
 (ld false 1 v59 q58.2.1).bind fun v60 =>
 (Zn 1 q58.1 v60).bind fun v61 =>
 (ld false 1 v61 q58.2.1).bind fun v62 =>
 (Zn 1 (t 2) (.int .i64 1)).bind fun v63 =>
 (ld false 1 v63 q58.2.1).bind fun v64 =>
 (Zn 1 q58.1 v64).bind fun v65 =>
 (ld false 1 v65 q58.2.1).bind fun v66 =>
 (Zd .plain .eql v62 v66).bind fun v67 =>
 (C 161 [v67] q58.2.1 (q58.2.2+18)).bind fun q68 =>
 (C 88 [t 0,q68.1] q68.2.1 (q68.2.2)).bind fun q69 =>
 iteK ([q69.1,.int .i64 0].all notTup) <|
 some (.tuple ⟨[q69.1,.int .i64 0]⟩,q69.2.1,q69.2.2))
 ((Za 0 (ptr (n+11) 0)).bind fun v70 =>
 (ld false 1 v70 H9).bind fun v71 =>
 (Zd .plain .eql v71 (.int .i64 2)).bind fun v72 =>
 let t74:Tm:=put (put (put (put (put (put (put (put (put (put (put (put (put (put (put (put (put (put (put (put (put (put (put (put (put (put (put (put (put (put (put (put (put (put (put t 6 (.int .i64 0)) 7 (.int .i64 0)) 12 (t 0)) 13 v1) 14 v2) 15 v3) 16 (t 2)) 17 v4) 18 v5) 19 v6) 20 v7) 8 (ptr (n+11) 0)) 22 (t 1)) 23 v10) 21 v10) 47 (t 1)) 48 v27) 46 v27) 59 (t 1)) 60 v34) 58 v34) 71 (t 1)) 72 v43) 70 v43) 80 (t 1)) 81 v49) 79 v49) 89 (t 1)) 90 v55) 88 v55) 111 (t 0)) 112 v70) 113 v71) 114 v72) 115 v72
 (gsel v72 true
 ((Za 1 (ptr (n+11) 0)).bind fun v75 =>
 (ld false 1 v75 H9).bind fun v76 =>
 (Zd .plain .eql v76 (.int .i64 0)).bind fun v77 =>
 some (put (put (put t74 116 v75) 117 v76) 118 v77,H9,n+44))
 (some (put (put (put t74 116 (.tuple #[])) 117 (.tuple #[])) 118 (.tuple #[]),H9,n+44))
 ).bind fun (q73:R3) =>
 (Zr (q73.1 115) (q73.1 118) (.bool false)).bind fun v78 =>
 (C 161 [v78] q73.2.1 (q73.2.2)).bind fun q79 =>
 (C 88 [q73.1 111,q79.1] q79.2.1 (q79.2.2)).bind fun q80 =>
 iteK ([q80.1,.int .i64 0].all notTup) <|
 some (.tuple ⟨[q80.1,.int .i64 0]⟩,q80.2.1,q80.2.2)))))))
theorem s153 (C:Zb) (L:Zc→Zc) (t:Tm) (H:Hp) (n:Nat):Zo Tryz.prog C L Tryz.f153 t H n=S153 C L t H n:=by kernel_rfl
theorem c153 (args:List Value) (H:Hp) (n:Nat):Call Tryz.prog 153 args H n=S153 (Call Tryz.prog) Zi (Zm args) H n:=(Ze Tryz.func153 args H n).trans (s153 ..)
noncomputable def S154 (C:Zb) (L:Zc→Zc) (t:Tm) (H:Hp) (n:Nat):Option (Value × Hp × Nat) :=
 (Zl (t 0)).bind fun c2 =>
 let H1:=H.set (n) (some (.row c2 0 true))
 let H3:=H1.set (n+1) (some (.row [.int .i64 0,.int .i64 0,.string ⟨#[]⟩,.int .i64 0,.int .i64 0] 0 true))
 (Za 0 (ptr (n) 0)).bind fun v4 =>
 (ld false 1 v4 H3).bind fun v5 =>
 (Zn 1 (t 2) (.int .i64 0)).bind fun v6 =>
 (ld false 1 v6 H3).bind fun v7 =>
 (Zn 5 v5 v7).bind fun v8 =>
 (ld true 5 v8 H3).bind fun v9 =>
 let H10:=H3.set (n+9) (some (.row [.int .i64 0,.int .i64 0,.string ⟨#[]⟩,.int .i64 0,.int .i64 0] 0 true))
 (st true 5 (ptr (n+9) 0) v9 H10).bind fun H11 =>
 (Zd .plain .eql (t 1) (.int .i64 6)).bind fun v12 =>
 csel v12
 ((Zn 1 (t 2) (.int .i64 0)).bind fun v13 =>
 (ld false 1 v13 H11).bind fun v14 =>
 (Zn 1 (t 2) (.int .i64 1)).bind fun v15 =>
 (ld false 1 v15 H11).bind fun v16 =>
 (bld [.int .i64 0,.int .i64 0,.string ⟨#[]⟩,.int .i64 0,.int .i64 0] [(0,1,.int .i64 5),(3,1,v14),(4,1,v16)]).bind fun v17 =>
 (st true 5 (ptr (n+1) 0) v17 H11).bind fun H18 =>
 (ld true 5 (ptr (n+1) 0) H18).bind fun v19 =>
 some (v19,H18,n+22))
 ((Zd .plain .eql (t 1) (.int .i64 9)).bind fun v20 =>
 csel v20
 ((Za 0 (ptr (n+9) 0)).bind fun v21 =>
 (ld false 1 v21 H11).bind fun v22 =>
 (Zd .plain .eql v22 (.int .i64 1)).bind fun v23 =>
 (C 163 [v23] H11 (n+21)).bind fun q24 =>
 (st true 5 (ptr (n+1) 0) q24.1 q24.2.1).bind fun H25 =>
 (ld true 5 (ptr (n+1) 0) H25).bind fun v26 =>
 some (v26,H25,q24.2.2))
 ((Zd .plain .eql (t 1) (.int .i64 10)).bind fun v27 =>
 csel v27
 ((Za 0 (ptr (n+9) 0)).bind fun v28 =>
 (ld false 1 v28 H11).bind fun v29 =>
 (Zd .plain .eql v29 (.int .i64 5)).bind fun v30 =>
 (C 163 [v30] H11 (n+23)).bind fun q31 =>
 (st true 5 (ptr (n+1) 0) q31.1 q31.2.1).bind fun H32 =>
 (ld true 5 (ptr (n+1) 0) H32).bind fun v33 =>
 some (v33,H32,q31.2.2))
 ((Zd .plain .eql (t 1) (.int .i64 11)).bind fun v34 =>
 csel v34
 ((ld true 1 (ptr (n) 0) H11).bind fun v35 =>
 (Zn 1 (t 2) (.int .i64 0)).bind fun v36 =>
 (ld false 1 v36 H11).bind fun v37 =>
 (Zn 1 (t 2) (.int .i64 1)).bind fun v38 =>
 (ld false 1 v38 H11).bind fun v39 =>
 (C 164 [v35,v37,v39] H11 (n+30)).bind fun q40 =>
 (C 163 [q40.1] q40.2.1 (q40.2.2)).bind fun q41 =>
 (st true 5 (ptr (n+1) 0) q41.1 q41.2.1).bind fun H42 =>
 (ld true 5 (ptr (n+1) 0) H42).bind fun v43 =>
 some (v43,H42,q41.2.2))
 ((Zd .plain .eql (t 1) (.int .i64 12)).bind fun v44 =>
 csel v44
 ((Za 0 (ptr (n+9) 0)).bind fun v45 =>
 (ld false 1 v45 H11).bind fun v46 =>
 (Zd .plain .eql v46 (.int .i64 2)).bind fun v47 =>
 let t49:Tm:=put (put (put (put (put (put (put (put (put (put (put (put (put (put (put (put (put (put (put (put (put (put (put (put (put t 3 (ptr (n) 0)) 6 (ptr (n+1) 0)) 8 v4) 9 v5) 10 (t 2)) 11 v6) 12 v7) 13 v8) 14 v9) 7 (ptr (n+9) 0)) 15 (t 1)) 17 v12) 16 v12) 26 v20) 25 v20) 32 v27) 31 v27) 38 v34) 37 v34) 49 v44) 48 v44) 50 v45) 51 v46) 52 v47) 53 v47
 (gsel v47 true
 ((Za 1 (ptr (n+9) 0)).bind fun v50 =>
 (ld false 1 v50 H11).bind fun v51 =>
 (Zd .plain .eql v51 (.int .i64 0)).bind fun v52 =>
 some (put (put (put t49 54 v50) 55 v51) 56 v52,H11,n+32))
 (some (put (put (put t49 54 (.tuple #[])) 55 (.tuple #[])) 56 (.tuple #[]),H11,n+32))
 ).bind fun (q48:R3) =>
 (Zr (q48.1 53) (q48.1 56) (.bool false)).bind fun v53 =>
 (C 163 [v53] q48.2.1 (q48.2.2)).bind fun q54 =>
 (st true 5 (q48.1 6) q54.1 q54.2.1).bind fun H55 =>
 (ld true 5 (q48.1 6) H55).bind fun v56 =>
 some (v56,H55,q54.2.2))
 ((Za 1 (ptr (n+9) 0)).bind fun v57 =>
 (ld false 1 v57 H11).bind fun v58 =>
 (Za 0 (ptr (n) 0)).bind fun v59 =>
 (ld false 1 v59 H11).bind fun v60 =>
 (Zn 1 (t 2) (.int .i64 1)).bind fun v61 =>
 (ld false 1 v61 H11).bind fun v62 =>
 (Zn 5 v60 v62).bind fun v63 =>
 (Za 1 v63).bind fun v64 =>
 (ld false 1 v64 H11).bind fun v65 =>
 (C 165 [t 1,v58,v65] H11 (n+35)).bind fun q66 =>
 (st true 5 (ptr (n+1) 0) q66.1 q66.2.1).bind fun H67 =>
 (ld true 5 (ptr (n+1) 0) H67).bind fun v68 =>
 some (v68,H67,q66.2.2))))))
theorem s154 (C:Zb) (L:Zc→Zc) (t:Tm) (H:Hp) (n:Nat):Zo Tryz.prog C L Tryz.f154 t H n=S154 C L t H n:=by kernel_rfl
theorem c154 (args:List Value) (H:Hp) (n:Nat):Call Tryz.prog 154 args H n=S154 (Call Tryz.prog) Zi (Zm args) H n:=(Ze Tryz.func154 args H n).trans (s154 ..)
noncomputable def S160 (C:Zb) (L:Zc→Zc) (t:Tm) (H:Hp) (n:Nat):Option (Value × Hp × Nat) :=
 (Zl (t 1)).bind fun c2 =>
 let H1:=H.set (n) (some (.row c2 0 true))
 (Zl (t 2)).bind fun c4 =>
 let H3:=H1.set (n+1) (some (.row c4 0 true))
 let H5:=H3.set (n+2) (some (.row [.int .i64 0,.int .i64 0,.string ⟨#[]⟩,.int .i64 0,.int .i64 0] 0 true))
 (Za 0 (ptr (n) 0)).bind fun v6 =>
 (ld false 1 v6 H5).bind fun v7 =>
 (Zd .plain .neq v7 (.int .i64 3)).bind fun v8 =>
 let t10:Tm:=put (put (put (put (put (put (put (put t 4 (ptr (n) 0)) 5 (ptr (n+1) 0)) 6 (ptr (n+2) 0)) 7 (.int .i64 0)) 9 v6) 10 v7) 11 v8) 12 v8
 (gsel v8 false
 ((Za 0 (ptr (n+1) 0)).bind fun v11 =>
 (ld false 1 v11 H5).bind fun v12 =>
 (Zd .plain .neq v12 (.int .i64 3)).bind fun v13 =>
 some (put (put (put t10 13 v11) 14 v12) 15 v13,H5,n+12))
 (some (put (put (put t10 13 (.tuple #[])) 14 (.tuple #[])) 15 (.tuple #[]),H5,n+12))
 ).bind fun (q9:R3) =>
 (Zr (q9.1 12) (.bool true) (q9.1 15)).bind fun v14 =>
 csel v14
 ((bld [.int .i64 0,.int .i64 0,.string ⟨#[]⟩,.int .i64 0,.int .i64 0] []).bind fun v15 =>
 (st true 5 (q9.1 6) v15 q9.2.1).bind fun H16 =>
 (ld true 5 (q9.1 6) H16).bind fun v17 =>
 iteK ([v17,.int .i64 3].all notTup) <|
 some (.tuple ⟨[v17,.int .i64 3]⟩,H16,q9.2.2+3))
 ((Za 1 (q9.1 4)).bind fun v18 =>
 (ld false 1 v18 q9.2.1).bind fun v19 =>
 (Za 1 (q9.1 5)).bind fun v20 =>
 (ld false 1 v20 q9.2.1).bind fun v21 =>
 (Zd .plain .add v19 v21).bind fun v22 =>
 (Zd .plain .eql (q9.1 0) (.int .i64 2)).bind fun v23 =>
 let t25:Tm:=put (put (put (put (put (put (put (put (put (put q9.1 16 v14) 18 v18) 19 v19) 20 v20) 21 v21) 22 v22) 8 v22) 23 (q9.1 0)) 25 v23) 24 v23
 (csel v23
 ((Za 1 (t25 4)).bind fun v26 =>
 (ld false 1 v26 q9.2.1).bind fun v27 =>
 (Za 1 (t25 5)).bind fun v28 =>
 (ld false 1 v28 q9.2.1).bind fun v29 =>
 (Zd .plain .sub v27 v29).bind fun v30 =>
 some ⟨.normal,put (put (put (put (put (put t25 26 v26) 27 v27) 28 v28) 29 v29) 30 v30) 8 v30,q9.2.1,q9.2.2+15⟩)
 ((Zd .plain .eql (q9.1 0) (.int .i64 3)).bind fun v31 =>
 let t33:Tm:=put (put t25 32 v31) 31 v31
 (csel v31
 ((Za 1 (t33 4)).bind fun v34 =>
 (ld false 1 v34 q9.2.1).bind fun v35 =>
 (Za 1 (t33 5)).bind fun v36 =>
 (ld false 1 v36 q9.2.1).bind fun v37 =>
 (Zd .plain .mul v35 v37).bind fun v38 =>
 some ⟨.normal,put (put (put (put (put (put t33 33 v34) 34 v35) 35 v36) 36 v37) 37 v38) 8 v38,q9.2.1,q9.2.2+17⟩)
 ((Zd .plain .eql (q9.1 0) (.int .i64 4)).bind fun v39 =>
 csel v39
 ((Za 1 (t33 4)).bind fun v40 =>
 (ld false 1 v40 q9.2.1).bind fun v41 =>
 (Za 1 (t33 5)).bind fun v42 =>
 (ld false 1 v42 q9.2.1).bind fun v43 =>
 (Zd .plain .lss v41 v43).bind fun v44 =>
 (C 161 [v44] q9.2.1 (q9.2.2+21)).bind fun q45 =>
 (st true 5 (t33 6) q45.1 q45.2.1).bind fun H46 =>
 some ⟨.ret,put (put (put (put (put (put (put (put (put t33 39 v39) 38 v39) 40 v40) 41 v41) 42 v42) 43 v43) 44 v44) 45 q45.1) 7 (.int .i64 0),H46,q45.2.2⟩)
 ((Zd .plain .eql (q9.1 0) (.int .i64 5)).bind fun v47 =>
 csel v47
 ((Za 1 (t33 4)).bind fun v48 =>
 (ld false 1 v48 q9.2.1).bind fun v49 =>
 (Za 1 (t33 5)).bind fun v50 =>
 (ld false 1 v50 q9.2.1).bind fun v51 =>
 (Zd .plain .eql v49 v51).bind fun v52 =>
 (C 161 [v52] q9.2.1 (q9.2.2+23)).bind fun q53 =>
 (st true 5 (t33 6) q53.1 q53.2.1).bind fun H54 =>
 some ⟨.ret,put (put (put (put (put (put (put (put (put (put (put t33 39 v39) 38 v39) 47 v47) 46 v47) 48 v48) 49 v49) 50 v50) 51 v51) 52 v52) 53 q53.1) 7 (.int .i64 0),H54,q53.2.2⟩)
 (some ⟨.normal,put (put (put (put t33 39 v39) 38 v39) 47 v47) 46 v47,q9.2.1,q9.2.2+15⟩)))
 ).bind fun (o32:Out) =>
 some o32)
 ).bind fun (o24:Out) =>
 let o55:=outOf 0 o24
 thenK o55
 ((C 47 [o55.t 8,.int .i64 (-1000000000),.int .i64 1000000000] o55.H (o55.n+3)).bind fun q56 =>
 (un .not q56.1).bind fun v57 =>
 csel v57
 ((bld [.int .i64 0,.int .i64 0,.string ⟨#[]⟩,.int .i64 0,.int .i64 0] []).bind fun v58 =>
 (st true 5 (o55.t 6) v58 q56.2.1).bind fun H59 =>
 (ld true 5 (o55.t 6) H59).bind fun v60 =>
 iteK ([v60,.int .i64 4].all notTup) <|
 some (.tuple ⟨[v60,.int .i64 4]⟩,H59,q56.2.2+3))
 ((bld [.int .i64 0,.int .i64 0,.string ⟨#[]⟩,.int .i64 0,.int .i64 0] [(0,1,.int .i64 3),(1,1,o55.t 8)]).bind fun v61 =>
 (st true 5 (o55.t 6) v61 q56.2.1).bind fun H62 =>
 (ld true 5 (o55.t 6) H62).bind fun v63 =>
 iteK ([v63,.int .i64 0].all notTup) <|
 some (.tuple ⟨[v63,.int .i64 0]⟩,H62,q56.2.2+4)))
 (finE o55.e
 ((ld true 5 (o55.t 6) o55.H).bind fun v64 =>
 iteK ([v64,o55.t 7].all notTup) <|
 some (.tuple ⟨[v64,o55.t 7]⟩,o55.H,o55.n))))
theorem s160 (C:Zb) (L:Zc→Zc) (t:Tm) (H:Hp) (n:Nat):Zo Tryz.prog C L Tryz.f160 t H n=S160 C L t H n:=by kernel_rfl
theorem c160 (args:List Value) (H:Hp) (n:Nat):Call Tryz.prog 160 args H n=S160 (Call Tryz.prog) Zi (Zm args) H n:=(Ze Tryz.func160 args H n).trans (s160 ..)
noncomputable def S161 (C:Zb) (L:Zc→Zc) (t:Tm) (H:Hp) (n:Nat):Option (Value × Hp × Nat) :=
 let H1:=H.set (n) (some (.row [.int .i64 0,.int .i64 0,.string ⟨#[]⟩,.int .i64 0,.int .i64 0] 0 true))
 csel (t 0)
 ((bld [.int .i64 0,.int .i64 0,.string ⟨#[]⟩,.int .i64 0,.int .i64 0] [(0,1,.int .i64 2),(1,1,.int .i64 1)]).bind fun v2 =>
 (st true 5 (ptr (n) 0) v2 H1).bind fun H3 =>
 (ld true 5 (ptr (n) 0) H3).bind fun v4 =>
 some (v4,H3,n+4))
 ((bld [.int .i64 0,.int .i64 0,.string ⟨#[]⟩,.int .i64 0,.int .i64 0] [(0,1,.int .i64 2)]).bind fun v5 =>
 (st true 5 (ptr (n) 0) v5 H1).bind fun H6 =>
 (ld true 5 (ptr (n) 0) H6).bind fun v7 =>
 some (v7,H6,n+4))
theorem s161 (C:Zb) (L:Zc→Zc) (t:Tm) (H:Hp) (n:Nat):Zo Tryz.prog C L Tryz.f161 t H n=S161 C L t H n:=by kernel_rfl
theorem c161 (args:List Value) (H:Hp) (n:Nat):Call Tryz.prog 161 args H n=S161 (Call Tryz.prog) Zi (Zm args) H n:=(Ze Tryz.func161 args H n).trans (s161 ..)
noncomputable def S162L1 (C:Zb) (L:Zc→Zc):Zc:=fun t H n =>
 (Zd .plain .lss (t 8) (t 5)).bind fun v46 =>
 csel v46
 ((Zn 5 (t 4) (t 8)).bind fun v47 =>
 (ld true 5 v47 H).bind fun v48 =>
 (ld true 5 (t 6) H).bind fun v49 =>
 (Zd (.agg [(0,(.int .i64)),(1,(.int .i64)),(2,.string),(3,(.int .i64)),(4,(.int .i64))]) .eql v48 v49).bind fun v50 =>
 csel v50
 (some ⟨(.exit 3),put (put (put (put (put (put (put (put (put (put (put t 49 (t 8)) 50 (t 5)) 51 v46) 54 (t 4)) 55 (t 8)) 56 v47) 57 v48) 58 v49) 59 v50) 60 (t 8)) 7 (t 8),H,n+11⟩)
 ((Zd .plain .add (t 8) (.int .i64 1)).bind fun v51 =>
 some ⟨.normal,put (put (put (put (put (put (put (put (put (put (put (put t 49 (t 8)) 50 (t 5)) 51 v46) 54 (t 4)) 55 (t 8)) 56 v47) 57 v48) 58 v49) 59 v50) 52 (t 8)) 53 v51) 8 v51,H,n+12⟩))
 (some ⟨(.exit 3),put (put (put t 49 (t 8)) 50 (t 5)) 51 v46,H,n+3⟩)
noncomputable def S162L0 (C:Zb) (L:Zc→Zc):Zc:=fun t H n =>
 (Za 0 (t 1)).bind fun v6 =>
 (ld false 1 v6 H).bind fun v7 =>
 (lenV false v7).bind fun v8 =>
 (Zd .plain .lss (t 5) v8).bind fun v9 =>
 csel v9
 ((Za 0 (t 1)).bind fun v10 =>
 (ld false 1 v10 H).bind fun v11 =>
 (Zn 5 v11 (t 5)).bind fun v12 =>
 (ld true 5 v12 H).bind fun v13 =>
 let H14:=H.set (n+10) (some (.row [.int .i64 0,.int .i64 0,.string ⟨#[]⟩,.int .i64 0,.int .i64 0] 0 true))
 (st true 5 (ptr (n+10) 0) v13 H14).bind fun H15 =>
 (Za 0 (ptr (n+10) 0)).bind fun v16 =>
 (ld false 1 v16 H15).bind fun v17 =>
 (Zd .plain .eql v17 (.int .i64 5)).bind fun v18 =>
 let t20:Tm:=put (put (put (put (put (put (put (put (put (put (put (put (put (put (put t 11 (t 5)) 12 v6) 13 v7) 14 v8) 15 v9) 18 v10) 19 v11) 20 (t 5)) 21 v12) 22 v13) 6 (ptr (n+10) 0)) 23 v16) 24 v17) 26 v18) 25 v18
 (csel v18
 ((Za 3 (ptr (n+10) 0)).bind fun v21 =>
 (ld false 1 v21 H15).bind fun v22 =>
 (Zn 1 (t20 3) v22).bind fun v23 =>
 (ld false 1 v23 H15).bind fun v24 =>
 (Za 3 (ptr (n+10) 0)).bind fun v25 =>
 (st false 1 v25 v24 H15).bind fun H26 =>
 (Za 4 (ptr (n+10) 0)).bind fun v27 =>
 (ld false 1 v27 H26).bind fun v28 =>
 (Zn 1 (t20 3) v28).bind fun v29 =>
 (ld false 1 v29 H26).bind fun v30 =>
 (Za 4 (ptr (n+10) 0)).bind fun v31 =>
 (st false 1 v31 v30 H26).bind fun H32 =>
 some ⟨.normal,put (put (put (put (put (put (put (put (put (put (put (put t20 27 (t20 3)) 28 v21) 29 v22) 30 v23) 31 v24) 32 v25) 33 (t20 3)) 34 v27) 35 v28) 36 v29) 37 v30) 38 v31,H32,n+30⟩)
 ((Zd .plain .eql v17 (.int .i64 6)).bind fun v33 =>
 let t35:Tm:=put (put t20 40 v33) 39 v33
 (csel v33
 (some ⟨.normal,t35,H15,n+18⟩)
 ((Zd .plain .eql v17 (.int .i64 7)).bind fun v36 =>
 some ⟨.normal,put (put t35 41 v36) 39 v36,H15,n+20⟩)
 ).bind fun (o34:Out) =>
 (csel (o34.t 39)
 ((Za 3 (o34.t 6)).bind fun v39 =>
 (ld false 1 v39 o34.H).bind fun v40 =>
 (Zn 1 (o34.t 3) v40).bind fun v41 =>
 (ld false 1 v41 o34.H).bind fun v42 =>
 (Za 3 (o34.t 6)).bind fun v43 =>
 (st false 1 v43 v42 o34.H).bind fun H44 =>
 some ⟨.normal,put (put (put (put (put (put o34.t 42 (o34.t 3)) 43 v39) 44 v40) 45 v41) 46 v42) 47 v43,H44,o34.n+7⟩)
 (some ⟨.normal,o34.t,o34.H,o34.n⟩)
 ).bind fun (o37:Out) =>
 some ⟨.normal,o37.t,o37.H,o37.n⟩)
 ).bind fun (o19:Out) =>
 (L (S162L1 C L) (put (put (put o19.t 48 (o19.t 5)) 7 (o19.t 5)) 8 (.int .i64 0)) o19.H (o19.n+3)).bind fun (o45:Out) =>
 (ld true 5 (o45.t 6) o45.H).bind fun v52 =>
 (bsl (o45.n+2) 5 1 [.int .i64 0,.int .i64 0,.string ⟨#[]⟩,.int .i64 0,.int .i64 0] [(0,5,v52)] o45.H).bind fun p53 =>
 (app (o45.n+3) 5 48 (o45.t 4) p53.1 p53.2).bind fun p54 =>
 (bsl (o45.n+7) 1 1 [.int .i64 0] [(0,1,o45.t 7)] p54.2).bind fun p55 =>
 (app (o45.n+8) 1 8 (o45.t 3) p55.1 p55.2).bind fun p56 =>
 (Zd .plain .add (o45.t 5) (.int .i64 1)).bind fun v57 =>
 some ⟨.normal,put (put (put (put (put (put (put (put (put (put (put (put (put o45.t 61 (o45.t 4)) 62 v52) 63 p53.1) 64 p54.1) 4 p54.1) 65 (o45.t 3)) 66 (o45.t 7)) 67 p55.1) 68 p56.1) 3 p56.1) 16 (o45.t 5)) 17 v57) 5 v57,p56.2,o45.n+13⟩)
 (some ⟨(.exit 0),put (put (put (put (put t 11 (t 5)) 12 v6) 13 v7) 14 v8) 15 v9,H,n+5⟩)
noncomputable def S162 (C:Zb) (L:Zc→Zc) (t:Tm) (H:Hp) (n:Nat):Option (Value × Hp × Nat) :=
 (Zl (t 0)).bind fun c2 =>
 let H1:=H.set (n) (some (.row c2 0 true))
 (bsl (n+2) 1 0 [.int .i64 0] [] H1).bind fun p3 =>
 (bsl (n+4) 5 0 [.int .i64 0,.int .i64 0,.string ⟨#[]⟩,.int .i64 0,.int .i64 0] [] p3.2).bind fun p4 =>
 (L (S162L0 C L) (put (put (put (put (put (put (put t 1 (ptr (n) 0)) 2 nilS) 9 p3.1) 3 p3.1) 10 p4.1) 4 p4.1) 5 (.int .i64 0)) p4.2 (n+7)).bind fun (o5:Out) =>
 some (o5.t 3,o5.H,o5.n+2)
theorem s162 (C:Zb) (L:Zc→Zc) (t:Tm) (H:Hp) (n:Nat):Zo Tryz.prog C L Tryz.f162 t H n=S162 C L t H n:=by kernel_rfl
theorem c162 (args:List Value) (H:Hp) (n:Nat):Call Tryz.prog 162 args H n=S162 (Call Tryz.prog) Zi (Zm args) H n:=(Ze Tryz.func162 args H n).trans (s162 ..)
noncomputable def S163 (C:Zb) (L:Zc→Zc) (t:Tm) (H:Hp) (n:Nat):Option (Value × Hp × Nat) :=
 let H1:=H.set (n) (some (.row [.int .i64 0,.int .i64 0,.string ⟨#[]⟩,.int .i64 0,.int .i64 0] 0 true))
 csel (t 0)
 ((bld [.int .i64 0,.int .i64 0,.string ⟨#[]⟩,.int .i64 0,.int .i64 0] [(0,1,.int .i64 2),(1,1,.int .i64 1)]).bind fun v2 =>
 (st true 5 (ptr (n) 0) v2 H1).bind fun H3 =>
 (ld true 5 (ptr (n) 0) H3).bind fun v4 =>
 some (v4,H3,n+4))
 ((bld [.int .i64 0,.int .i64 0,.string ⟨#[]⟩,.int .i64 0,.int .i64 0] [(0,1,.int .i64 2)]).bind fun v5 =>
 (st true 5 (ptr (n) 0) v5 H1).bind fun H6 =>
 (ld true 5 (ptr (n) 0) H6).bind fun v7 =>
 some (v7,H6,n+4))
theorem s163 (C:Zb) (L:Zc→Zc) (t:Tm) (H:Hp) (n:Nat):Zo Tryz.prog C L Tryz.f163 t H n=S163 C L t H n:=by kernel_rfl
theorem c163 (args:List Value) (H:Hp) (n:Nat):Call Tryz.prog 163 args H n=S163 (Call Tryz.prog) Zi (Zm args) H n:=(Ze Tryz.func163 args H n).trans (s163 ..)
noncomputable def S164 (C:Zb) (L:Zc→Zc) (t:Tm) (H:Hp) (n:Nat):Option (Value × Hp × Nat) :=
 (Zl (t 0)).bind fun c2 =>
 let H1:=H.set (n) (some (.row c2 0 true))
 (ld true 1 (ptr (n) 0) H1).bind fun v3 =>
 (C 40 [v3] H1 (n+17)).bind fun q4 =>
 (un .not q4.1).bind fun v5 =>
 let t7:Tm:=put (put (put (put (put (put t 3 (ptr (n) 0)) 6 (.bool false)) 8 v3) 9 q4.1) 10 v5) 11 v5
 (gsel v5 false
 ((ld true 1 (ptr (n) 0) q4.2.1).bind fun v8 =>
 (C 41 [v8,t7 1] q4.2.1 (q4.2.2)).bind fun q9 =>
 (un .not q9.1).bind fun v10 =>
 some (put (put (put (put t7 12 v8) 13 (t7 1)) 14 q9.1) 15 v10,q9.2.1,q9.2.2))
 (some (put (put (put (put t7 12 (.tuple #[])) 13 (.tuple #[])) 14 (.tuple #[])) 15 (.tuple #[]),q4.2.1,q4.2.2))
 ).bind fun (q6:R3) =>
 (Zr (q6.1 11) (.bool true) (q6.1 15)).bind fun v11 =>
 let t13:Tm:=put (put q6.1 16 v11) 17 v11
 (gsel v11 false
 ((ld true 1 (t13 3) q6.2.1).bind fun v14 =>
 (C 41 [v14,t13 2] q6.2.1 (q6.2.2)).bind fun q15 =>
 (un .not q15.1).bind fun v16 =>
 some (put (put (put (put t13 18 v14) 19 (t13 2)) 20 q15.1) 21 v16,q15.2.1,q15.2.2))
 (some (put (put (put (put t13 18 (.tuple #[])) 19 (.tuple #[])) 20 (.tuple #[])) 21 (.tuple #[]),q6.2.1,q6.2.2))
 ).bind fun (q12:R3) =>
 (Zr (q12.1 17) (.bool true) (q12.1 21)).bind fun v17 =>
 csel v17
 (some (.bool false,q12.2.1,q12.2.2+1))
 ((ld true 1 (q12.1 3) q12.2.1).bind fun v18 =>
 (C 170 [v18] q12.2.1 (q12.2.2+3)).bind fun q19 =>
 (Zn 1 q19.1 (q12.1 1)).bind fun v20 =>
 (ld false 1 v20 q19.2.1).bind fun v21 =>
 (Zn 1 q19.1 (q12.1 2)).bind fun v22 =>
 (ld false 1 v22 q19.2.1).bind fun v23 =>
 (Zd .plain .eql v21 v23).bind fun v24 =>
 some (v24,q19.2.1,q19.2.2+10))
theorem s164 (C:Zb) (L:Zc→Zc) (t:Tm) (H:Hp) (n:Nat):Zo Tryz.prog C L Tryz.f164 t H n=S164 C L t H n:=by kernel_rfl
theorem c164 (args:List Value) (H:Hp) (n:Nat):Call Tryz.prog 164 args H n=S164 (Call Tryz.prog) Zi (Zm args) H n:=(Ze Tryz.func164 args H n).trans (s164 ..)
noncomputable def S165 (C:Zb) (L:Zc→Zc) (t:Tm) (H:Hp) (n:Nat):Option (Value × Hp × Nat) :=
 let H1:=H.set (n) (some (.row [.int .i64 0,.int .i64 0,.string ⟨#[]⟩,.int .i64 0,.int .i64 0] 0 true))
 (Zd .plain .eql (t 0) (.int .i64 1)).bind fun v2 =>
 csel v2
 ((Zd .plain .add (t 1) (t 2)).bind fun v3 =>
 (bld [.int .i64 0,.int .i64 0,.string ⟨#[]⟩,.int .i64 0,.int .i64 0] [(0,1,.int .i64 3),(1,1,v3)]).bind fun v4 =>
 (st true 5 (ptr (n) 0) v4 H1).bind fun H5 =>
 (ld true 5 (ptr (n) 0) H5).bind fun v6 =>
 some (v6,H5,n+9))
 ((Zd .plain .eql (t 0) (.int .i64 2)).bind fun v7 =>
 csel v7
 ((Zd .plain .sub (t 1) (t 2)).bind fun v8 =>
 (bld [.int .i64 0,.int .i64 0,.string ⟨#[]⟩,.int .i64 0,.int .i64 0] [(0,1,.int .i64 3),(1,1,v8)]).bind fun v9 =>
 (st true 5 (ptr (n) 0) v9 H1).bind fun H10 =>
 (ld true 5 (ptr (n) 0) H10).bind fun v11 =>
 some (v11,H10,n+11))
 ((Zd .plain .eql (t 0) (.int .i64 3)).bind fun v12 =>
 csel v12
 ((Zd .plain .mul (t 1) (t 2)).bind fun v13 =>
 (bld [.int .i64 0,.int .i64 0,.string ⟨#[]⟩,.int .i64 0,.int .i64 0] [(0,1,.int .i64 3),(1,1,v13)]).bind fun v14 =>
 (st true 5 (ptr (n) 0) v14 H1).bind fun H15 =>
 (ld true 5 (ptr (n) 0) H15).bind fun v16 =>
 some (v16,H15,n+13))
 ((Zd .plain .eql (t 0) (.int .i64 4)).bind fun v17 =>
 csel v17
 ((Zd .plain .lss (t 1) (t 2)).bind fun v18 =>
 (C 163 [v18] H1 (n+15)).bind fun q19 =>
 (st true 5 (ptr (n) 0) q19.1 q19.2.1).bind fun H20 =>
 (ld true 5 (ptr (n) 0) H20).bind fun v21 =>
 some (v21,H20,q19.2.2))
 ((Zd .plain .eql (t 1) (t 2)).bind fun v22 =>
 (C 163 [v22] H1 (n+15)).bind fun q23 =>
 (st true 5 (ptr (n) 0) q23.1 q23.2.1).bind fun H24 =>
 (ld true 5 (ptr (n) 0) H24).bind fun v25 =>
 some (v25,H24,q23.2.2)))))
theorem s165 (C:Zb) (L:Zc→Zc) (t:Tm) (H:Hp) (n:Nat):Zo Tryz.prog C L Tryz.f165 t H n=S165 C L t H n:=by kernel_rfl
theorem c165 (args:List Value) (H:Hp) (n:Nat):Call Tryz.prog 165 args H n=S165 (Call Tryz.prog) Zi (Zm args) H n:=(Ze Tryz.func165 args H n).trans (s165 ..)
noncomputable def S170L0 (C:Zb) (L:Zc→Zc):Zc:=fun t H n =>
 (Zd .plain .lss (t 14) (t 13)).bind fun v9 =>
 csel v9
 ((Zn 5 (t 12) (t 14)).bind fun v10 =>
 (ld true 5 v10 H).bind fun v11 =>
 let H12:=H.set (n+4) (some (.row [.int .i64 0,.int .i64 0,.string ⟨#[]⟩,.int .i64 0,.int .i64 0] 0 true))
 (st true 5 (ptr (n+4) 0) v11 H12).bind fun H13 =>
 (Za 0 (ptr (n+4) 0)).bind fun v14 =>
 (ld false 1 v14 H13).bind fun v15 =>
 (Zd .plain .eql v15 (.int .i64 5)).bind fun v16 =>
 let t18:Tm:=put (put (put (put (put (put (put (put (put (put t 15 v9) 16 (t 14)) 17 v10) 18 v11) 6 (ptr (n+4) 0)) 5 (t 14)) 19 v14) 20 v15) 22 v16) 21 v16
 (csel v16
 ((Za 3 (ptr (n+4) 0)).bind fun v19 =>
 (ld false 1 v19 H13).bind fun v20 =>
 (Zn 1 (t18 4) v20).bind fun v21 =>
 (ld false 1 v21 H13).bind fun v22 =>
 (Za 4 (ptr (n+4) 0)).bind fun v23 =>
 (ld false 1 v23 H13).bind fun v24 =>
 (Zn 1 (t18 4) v24).bind fun v25 =>
 (ld false 1 v25 H13).bind fun v26 =>
 (Za 3 (ptr (n+4) 0)).bind fun v27 =>
 (st false 1 v27 v22 H13).bind fun H28 =>
 ask (ld false 1 v25 H28=some v26) <|
 (Za 4 (ptr (n+4) 0)).bind fun v29 =>
 (st false 1 v29 v26 H28).bind fun H30 =>
 some ⟨.normal,put (put (put (put (put (put (put (put (put (put (put (put t18 23 (t18 4)) 24 v19) 25 v20) 26 v21) 27 v22) 28 (t18 4)) 29 v23) 30 v24) 31 v25) 32 v26) 33 v27) 34 v29,H30,n+25⟩)
 ((Zd .plain .eql v15 (.int .i64 6)).bind fun v31 =>
 let t33:Tm:=put (put t18 36 v31) 35 v31
 (csel v31
 (some ⟨.normal,t33,H13,n+13⟩)
 ((Zd .plain .eql v15 (.int .i64 7)).bind fun v34 =>
 some ⟨.normal,put (put t33 37 v34) 35 v34,H13,n+15⟩)
 ).bind fun (o32:Out) =>
 (csel (o32.t 35)
 ((Za 3 (o32.t 6)).bind fun v37 =>
 (ld false 1 v37 o32.H).bind fun v38 =>
 (Zn 1 (o32.t 4) v38).bind fun v39 =>
 (ld false 1 v39 o32.H).bind fun v40 =>
 (Za 3 (o32.t 6)).bind fun v41 =>
 (st false 1 v41 v40 o32.H).bind fun H42 =>
 some ⟨.normal,put (put (put (put (put (put o32.t 38 (o32.t 4)) 39 v37) 40 v38) 41 v39) 42 v40) 43 v41,H42,o32.n+7⟩)
 (some ⟨.normal,o32.t,o32.H,o32.n⟩)
 ).bind fun (o35:Out) =>
 some ⟨.normal,o35.t,o35.H,o35.n⟩)
 ).bind fun (o17:Out) =>
 (ld true 5 (o17.t 6) o17.H).bind fun v43 =>
 (lookV [(0,(.int .i64)),(1,(.int .i64)),(2,.string),(3,(.int .i64)),(4,(.int .i64))] (.int .i64 0) true (o17.t 3) v43 o17.H).bind fun v44 =>
 (ext 0 v44).bind fun v45 =>
 (ext 1 v44).bind fun v46 =>
 (un .not v46).bind fun v47 =>
 let t49:Tm:=put (put (put (put (put (put (put (put (put (put o17.t 45 (o17.t 3)) 46 v43) 47 v44) 44 v44) 48 v45) 49 v46) 7 v45) 8 v46) 50 v46) 51 v47
 (csel v47
 ((ld true 5 (t49 6) o17.H).bind fun v50 =>
 (updV [(0,(.int .i64)),(1,(.int .i64)),(2,.string),(3,(.int .i64)),(4,(.int .i64))] (t49 3) v50 (t49 5) o17.H).bind fun H51 =>
 some ⟨.normal,put (put (put (put (put t49 52 (t49 5)) 7 (t49 5)) 53 (t49 3)) 54 v50) 55 (t49 5),H51,o17.n+16⟩)
 (some ⟨.normal,t49,o17.H,o17.n+10⟩)
 ).bind fun (o48:Out) =>
 (bsl (o48.n+2) 1 1 [.int .i64 0] [(0,1,o48.t 7)] o48.H).bind fun p52 =>
 (app (o48.n+3) 1 8 (o48.t 4) p52.1 p52.2).bind fun p53 =>
 (Zd .plain .add (o48.t 14) (.int .i64 1)).bind fun v54 =>
 some ⟨.normal,put (put (put (put (put (put (put o48.t 56 (o48.t 4)) 57 (o48.t 7)) 58 p52.1) 59 p53.1) 4 p53.1) 60 v54) 14 v54,p53.2,o48.n+7⟩)
 (some ⟨(.exit 0),put t 15 v9,H,n+1⟩)
noncomputable def S170 (C:Zb) (L:Zc→Zc) (t:Tm) (H:Hp) (n:Nat):Option (Value × Hp × Nat) :=
 (Zl (t 0)).bind fun c2 =>
 let H1:=H.set (n) (some (.row c2 0 true))
 let H3:=H1.set (n+2) (some (.map []))
 (bsl (n+4) 1 0 [.int .i64 0] [] H3).bind fun p4 =>
 (Za 0 (ptr (n) 0)).bind fun v5 =>
 (ld false 1 v5 p4.2).bind fun v6 =>
 (lenV false v6).bind fun v7 =>
 (L (S170L0 C L) (put (put (put (put (put (put (put (put (put (put t 1 (ptr (n) 0)) 2 nilS) 9 (.map (some (n+2)))) 3 (.map (some (n+2)))) 10 p4.1) 4 p4.1) 11 v5) 12 v6) 13 v7) 14 (.int .i64 0)) p4.2 (n+10)).bind fun (o8:Out) =>
 some (o8.t 4,o8.H,o8.n+2)
theorem s170 (C:Zb) (L:Zc→Zc) (t:Tm) (H:Hp) (n:Nat):Zo Tryz.prog C L Tryz.f170 t H n=S170 C L t H n:=by kernel_rfl
theorem c170 (args:List Value) (H:Hp) (n:Nat):Call Tryz.prog 170 args H n=S170 (Call Tryz.prog) Zi (Zm args) H n:=(Ze Tryz.func170 args H n).trans (s170 ..)
end Go.Proofs.YtcffcnipmgkjfaaGreat.Ax
