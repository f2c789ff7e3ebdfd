/- What the bodies of some functions of the program come to in the abstract machine. -/
import Derived.Test.YtcffcnipmgkjfaaGreatProg
import Derived.Test.YtcffcnipmgkjfaaGreatM0
set_option linter.unusedVariables false
set_option maxHeartbeats 8000000
namespace Go.Proofs.YtcffcnipmgkjfaaGreat.Ax
open Go
set_option maxRecDepth 100000
noncomputable def S4L0 (C:Zb)(L:Zc->Zc):Zc:=fun t H n=>(Za 0 (t 4)).bind fun v84=>(Za 0 v84).bind fun v85=>(ld false 1 v85 H).bind fun v86=>(Zx false v86).bind fun v87=>(Zd .plain .lss (t 7) v87).bind fun v88=>csel v88
 ((Za 0 (t 5)).bind fun v89=>(Za 0 v89).bind fun v90=>(ld false 1 v90 H).bind fun v91=>(Zo 5 v91 (t 7)).bind fun v92=>(ld true 5 v92 H).bind fun v93=>(Za 0 (t 4)).bind fun v94=>(Za 0 v94).bind fun v95=>(ld false 1 v95 H).bind fun v96=>(Zo 5 v96 (t 7)).bind fun v97=>(ld true 5 v97 H).bind fun v98=>(Zd (.agg [(0,(.int .i64)),(1,(.int .i64)),(2,.string),(3,(.int .i64)),(4,(.int .i64))]) .neq v93 v98).bind fun v99=>csel v99
 (some ⟨.ret,put (put (put (put (put (put (put (put (put (put (put (put (put (put (put (put (put (put (put (put t 79 (t 7)) 80 v84) 81 v85) 82 v86) 83 v87) 84 v88) 87 v89) 88 v90) 89 v91) 90 (t 7)) 91 v92) 92 v93) 93 v94) 94 v95) 95 v96) 96 (t 7)) 97 v97) 98 v98) 99 v99) 2 (.bool false),H,n+20⟩)
 ((Zd .plain .add (t 7) (.int .i64 1)).bind fun v100=>some ⟨.normal,put (put (put (put (put (put (put (put (put (put (put (put (put (put (put (put (put (put (put (put (put (put t 79 (t 7)) 80 v84) 81 v85) 82 v86) 83 v87) 84 v88) 87 v89) 88 v90) 89 v91) 90 (t 7)) 91 v92) 92 v93) 93 v94) 94 v95) 95 v96) 96 (t 7)) 97 v97) 98 v98) 99 v99) 85 (t 7)) 86 v100) 7 v100,H,n+22⟩))
 (some ⟨(.exit 0),put (put (put (put (put (put t 79 (t 7)) 80 v84) 81 v85) 82 v86) 83 v87) 84 v88,H,n+6⟩)
noncomputable def S4 (C:Zb)(L:Zc->Zc)(t:Tm)(H:Hp)(n:Nat):Option (Value × Hp × Nat) :=
 (C 16 [t 0] H (n+3)).bind fun q1=>csel q1.1
 (some (.bool true,q1.2.1,q1.2.2+1))
 ((C 17 [t 0] q1.2.1 (q1.2.2+9)).bind fun q2=>(ext 0 q2.1).bind fun v3=>(ext 1 q2.1).bind fun v4=>let H5:=q2.2.1.set (q1.2.2+5) (some (.row [nilS,nilS,nilS] 0 true))
 let H6:=H5.set (q1.2.2+6) (some (.row [nilS,.int .i64 0,.int .i64 0,.int .i64 0,.int .i64 0,.int .i64 0,.int .i64 0,.int .i64 0] 0 true))
 (st true 3 (ptr (q1.2.2+5) 0) v3 H6).bind fun H7=>(st true 8 (ptr (q1.2.2+6) 0) v4 H7).bind fun H8=>(ld true 3 (ptr (q1.2.2+5) 0) H8).bind fun v9=>(ld true 8 (ptr (q1.2.2+6) 0) H8).bind fun v10=>(C 10 [v9,v10] H8 (q2.2.2+5)).bind fun q11=>let H12:=q11.2.1.set (q2.2.2+3) (some (.row [nilS,.int .i64 0,.int .i64 0,.int .i64 0,.int .i64 0,.int .i64 0,.int .i64 0,.int .i64 0] 0 true))
 (st true 8 (ptr (q2.2.2+3) 0) q11.1 H12).bind fun H13=>(ld true 3 (ptr (q1.2.2+5) 0) H13).bind fun v14=>(ld true 8 (ptr (q1.2.2+6) 0) H13).bind fun v15=>(C 7 [v14,v15] H13 (q11.2.2+5)).bind fun q16=>let H17:=q16.2.1.set (q11.2.2+3) (some (.row [nilS,.int .i64 0,.int .i64 0,.int .i64 0,.int .i64 0,.int .i64 0,.int .i64 0,.int .i64 0] 0 true))
 (st true 8 (ptr (q11.2.2+3) 0) q16.1 H17).bind fun H18=>(Za 5 (ptr (q2.2.2+3) 0)).bind fun v19=>(ld false 1 v19 H18).bind fun v20=>(Za 5 (ptr (q11.2.2+3) 0)).bind fun v21=>(ld false 1 v21 H18).bind fun v22=>(Zd .plain .neq v20 v22).bind fun v23=>let t25:Tm:=put (put (put (put (put (put (put (put (put (put (put (put (put (put (put (put (put (put (put (put (put (put (put (put t 2 (.bool false)) 8 (t 0)) 9 q1.1) 11 (t 0)) 12 q2.1) 10 q2.1) 13 v3) 14 v4) 3 (ptr (q1.2.2+5) 0)) 4 (ptr (q1.2.2+6) 0)) 15 v9) 16 v10) 17 q11.1) 5 (ptr (q2.2.2+3) 0)) 18 v14) 19 v15) 20 q16.1) 6 (ptr (q11.2.2+3) 0)) 21 v19) 22 v20) 23 v21) 24 v22) 25 v23) 26 v23
 (gsel v23 false
 ((Za 1 (ptr (q2.2.2+3) 0)).bind fun v26=>(ld false 1 v26 H18).bind fun v27=>(Za 1 (ptr (q11.2.2+3) 0)).bind fun v28=>(ld false 1 v28 H18).bind fun v29=>(Zd .plain .neq v27 v29).bind fun v30=>some ⟨put (put (put (put (put t25 27 v26) 28 v27) 29 v28) 30 v29) 31 v30,H18,q16.2.2+39,[⟨9,false,1,v28,v29⟩,⟨7,false,1,v26,v27⟩,⟨3,false,1,v21,v22⟩,⟨1,false,1,v19,v20⟩],[]⟩)
 (some ⟨put (put (put (put (put t25 27 (.tuple #[])) 28 (.tuple #[])) 29 (.tuple #[])) 30 (.tuple #[])) 31 (.tuple #[]),H18,q16.2.2+39,[⟨3,false,1,v21,v22⟩,⟨1,false,1,v19,v20⟩],[]⟩)
 ).bind fun(q24:R5)=>(Zl (q24.t 26) (.bool true) (q24.t 31)).bind fun v31=>let t33:Tm:=put (put q24.t 32 v31) 33 v31
 (gsel v31 false
 ((Za 6 (t33 5)).bind fun v34=>(ld false 1 v34 q24.H).bind fun v35=>askB 16383 false 1 v34 v35 q24.hs <|(Za 6 (t33 6)).bind fun v36=>(ld false 1 v36 q24.H).bind fun v37=>askB 40959 false 1 v36 v37 q24.hs <|(Zd .plain .neq v35 v37).bind fun v38=>some ⟨put (put (put (put (put t33 34 v34) 35 v35) 36 v36) 37 v37) 38 v38,q24.H,q24.n,(⟨16,false,1,v36,v37⟩ :: ⟨14,false,1,v34,v35⟩ :: q24.rs),q24.hs⟩)
 (some ⟨put (put (put (put (put t33 34 (.tuple #[])) 35 (.tuple #[])) 36 (.tuple #[])) 37 (.tuple #[])) 38 (.tuple #[]),q24.H,q24.n,q24.rs,q24.hs⟩)
 ).bind fun(q32:R5)=>(Zl (q32.t 33) (.bool true) (q32.t 38)).bind fun v39=>let t41:Tm:=put (put q32.t 39 v39) 40 v39
 (gsel v39 false
 ((Za 0 (t41 5)).bind fun v42=>(Za 0 v42).bind fun v43=>(ld false 1 v43 q32.H).bind fun v44=>askB 4194303 false 1 v43 v44 q32.hs <|(Zx false v44).bind fun v45=>(Za 0 (t41 6)).bind fun v46=>(Za 0 v46).bind fun v47=>(ld false 1 v47 q32.H).bind fun v48=>askB 51380223 false 1 v47 v48 q32.hs <|(Zx false v48).bind fun v49=>(Zd .plain .neq v45 v49).bind fun v50=>some ⟨put (put (put (put (put (put (put (put (put t41 41 v42) 42 v43) 43 v44) 44 v45) 45 v46) 46 v47) 47 v48) 48 v49) 49 v50,q32.H,q32.n,(⟨26,false,1,v47,v48⟩ :: ⟨22,false,1,v43,v44⟩ :: q32.rs),q32.hs⟩)
 (some ⟨put (put (put (put (put (put (put (put (put t41 41 (.tuple #[])) 42 (.tuple #[])) 43 (.tuple #[])) 44 (.tuple #[])) 45 (.tuple #[])) 46 (.tuple #[])) 47 (.tuple #[])) 48 (.tuple #[])) 49 (.tuple #[]),q32.H,q32.n,q32.rs,q32.hs⟩)
 ).bind fun(q40:R5)=>(Zl (q40.t 40) (.bool true) (q40.t 49)).bind fun v51=>let t53:Tm:=put (put q40.t 50 v51) 51 v51
 (gsel v51 false
 ((ld true 3 (t53 3) q40.H).bind fun v54=>askB 2147483647 true 3 (t53 3) v54 q40.hs <|(ld true 8 (t53 4) q40.H).bind fun v55=>askB 2147483647 true 8 (t53 4) v55 q40.hs <|(C 18 [v54,v55] q40.H (q40.n)).bind fun q56=>asks 8589934591 q56.2.1 q40.rs <|(ld true 3 (t53 3) q56.2.1).bind fun v57=>ask (ld true 3 (t53 3) q40.H=some v57) <|askB 2147483647 true 3 (t53 3) v57 q40.hs <|(ld true 8 (t53 4) q56.2.1).bind fun v58=>ask (ld true 8 (t53 4) q40.H=some v58) <|askB 2147483647 true 8 (t53 4) v58 q40.hs <|(C 19 [v57,v58] q56.2.1 (q56.2.2)).bind fun q59=>asks 68719476735 q59.2.1 q40.rs <|(Zd .bool .neq q56.1 q59.1).bind fun v60=>some ⟨put (put (put (put (put (put (put t53 52 v54) 53 v55) 54 q56.1) 55 v57) 56 v58) 57 q59.1) 58 v60,q59.2.1,q59.2.2,(⟨35,true,8,t53 4,v58⟩ :: ⟨34,true,3,t53 3,v57⟩ :: ⟨32,true,8,t53 4,v55⟩ :: ⟨31,true,3,t53 3,v54⟩ :: q40.rs),((36,q56.2.1) :: (33,q40.H) :: q40.hs)⟩)
 (some ⟨put (put (put (put (put (put (put t53 52 (.tuple #[])) 53 (.tuple #[])) 54 (.tuple #[])) 55 (.tuple #[])) 56 (.tuple #[])) 57 (.tuple #[])) 58 (.tuple #[]),q40.H,q40.n,q40.rs,q40.hs⟩)
 ).bind fun(q52:R5)=>(Zl (q52.t 51) (.bool true) (q52.t 58)).bind fun v61=>csel v61
 (some (.bool false,q52.H,q52.n+1))
 ((ld true 3 (q52.t 3) q52.H).bind fun v62=>(ld true 8 (q52.t 4) q52.H).bind fun v63=>(C 19 [v62,v63] q52.H (q52.n+4)).bind fun q64=>(un .not q64.1).bind fun v65=>csel v65
 ((Za 5 (q52.t 5)).bind fun v66=>(ld false 1 v66 q64.2.1).bind fun v67=>(Zd .plain .eql v67 (.int .i64 3)).bind fun v68=>let t70:Tm:=put (put (put (put (put (put (put (put (put q52.t 59 v61) 60 v62) 61 v63) 62 q64.1) 63 v65) 64 v66) 65 v67) 66 v68) 67 v68
 (gsel v68 true
 ((Za 6 (t70 5)).bind fun v71=>(ld false 1 v71 q64.2.1).bind fun v72=>(Zd .plain .eql v72 (.int .i64 7)).bind fun v73=>some (put (put (put t70 68 v71) 69 v72) 70 v73,q64.2.1,q64.2.2+16))
 (some (put (put (put t70 68 (.tuple #[])) 69 (.tuple #[])) 70 (.tuple #[]),q64.2.1,q64.2.2+16))
 ).bind fun(q69:R3)=>(Zl (q69.1 67) (q69.1 70) (.bool false)).bind fun v74=>let t76:Tm:=put (put q69.1 71 v74) 72 v74
 (gsel v74 true
 ((Za 0 (t76 5)).bind fun v77=>(Za 0 v77).bind fun v78=>(ld false 1 v78 q69.2.1).bind fun v79=>(Zx false v79).bind fun v80=>(Zd .plain .eql v80 (.int .i64 0)).bind fun v81=>some (put (put (put (put (put t76 73 v77) 74 v78) 75 v79) 76 v80) 77 v81,q69.2.1,q69.2.2))
 (some (put (put (put (put (put t76 73 (.tuple #[])) 74 (.tuple #[])) 75 (.tuple #[])) 76 (.tuple #[])) 77 (.tuple #[]),q69.2.1,q69.2.2))
 ).bind fun(q75:R3)=>(Zl (q75.1 72) (q75.1 77) (.bool false)).bind fun v82=>some (v82,q75.2.1,q75.2.2))
 ((L (S4L0 C L) (put (put (put (put (put (put q52.t 59 v61) 60 v62) 61 v63) 62 q64.1) 63 v65) 7 (.int .i64 0)) q64.2.1 (q64.2.2+1)).bind fun(o83:Out)=>let o101:=outOf 0 o83
 Xe o101
 ((Za 5 (o101.t 4)).bind fun v102=>(ld false 1 v102 o101.H).bind fun v103=>(Zd .plain .neq v103 (.int .i64 0)).bind fun v104=>let t106:Tm:=put (put (put (put o101.t 100 v102) 101 v103) 102 v104) 103 v104
 (gsel v104 true
 ((Za 5 (t106 5)).bind fun v107=>(ld false 1 v107 o101.H).bind fun v108=>(Za 5 (t106 4)).bind fun v109=>(ld false 1 v109 o101.H).bind fun v110=>(Zd .plain .neq v108 v110).bind fun v111=>some (put (put (put (put (put (put t106 104 v107) 105 v108) 106 v109) 107 v110) 108 v111) 109 v111,o101.H,o101.n+31))
 (some (put (put (put (put (put (put t106 104 (.tuple #[])) 105 (.tuple #[])) 106 (.tuple #[])) 107 (.tuple #[])) 108 (.tuple #[])) 109 (.tuple #[]),o101.H,o101.n+31))
 ).bind fun(q105:R3)=>let t113:Tm:=q105.1
 (gsel (q105.1 109) false
 ((Za 1 (t113 5)).bind fun v114=>(ld false 1 v114 q105.2.1).bind fun v115=>(Za 1 (t113 4)).bind fun v116=>(ld false 1 v116 q105.2.1).bind fun v117=>(Zd .plain .neq v115 v117).bind fun v118=>some (put (put (put (put (put t113 110 v114) 111 v115) 112 v116) 113 v117) 114 v118,q105.2.1,q105.2.2))
 (some (put (put (put (put (put t113 110 (.tuple #[])) 111 (.tuple #[])) 112 (.tuple #[])) 113 (.tuple #[])) 114 (.tuple #[]),q105.2.1,q105.2.2))
 ).bind fun(q112:R3)=>let t120:Tm:=q112.1
 (gsel (q112.1 103) true
 ((Zl (t120 109) (.bool true) (t120 114)).bind fun v121=>some (put (put t120 115 v121) 116 v121,q112.2.1,q112.2.2))
 (some (put (put t120 115 (.tuple #[])) 116 (.tuple #[]),q112.2.1,q112.2.2))
 ).bind fun(q119:R3)=>let t123:Tm:=q119.1
 (gsel (q119.1 116) false
 ((Za 2 (t123 5)).bind fun v124=>(ld false 1 v124 q119.2.1).bind fun v125=>(Za 2 (t123 4)).bind fun v126=>(ld false 1 v126 q119.2.1).bind fun v127=>(Zd .plain .neq v125 v127).bind fun v128=>some (put (put (put (put (put t123 117 v124) 118 v125) 119 v126) 120 v127) 121 v128,q119.2.1,q119.2.2))
 (some (put (put (put (put (put t123 117 (.tuple #[])) 118 (.tuple #[])) 119 (.tuple #[])) 120 (.tuple #[])) 121 (.tuple #[]),q119.2.1,q119.2.2))
 ).bind fun(q122:R3)=>let t130:Tm:=q122.1
 (gsel (q122.1 103) true
 ((Zl (t130 116) (.bool true) (t130 121)).bind fun v131=>some (put (put t130 122 v131) 123 v131,q122.2.1,q122.2.2))
 (some (put (put t130 122 (.tuple #[])) 123 (.tuple #[]),q122.2.1,q122.2.2))
 ).bind fun(q129:R3)=>let t133:Tm:=q129.1
 (gsel (q129.1 123) false
 ((Za 7 (t133 5)).bind fun v134=>(ld false 1 v134 q129.2.1).bind fun v135=>(Za 7 (t133 4)).bind fun v136=>(ld false 1 v136 q129.2.1).bind fun v137=>(Zd .plain .neq v135 v137).bind fun v138=>some (put (put (put (put (put t133 124 v134) 125 v135) 126 v136) 127 v137) 128 v138,q129.2.1,q129.2.2))
 (some (put (put (put (put (put t133 124 (.tuple #[])) 125 (.tuple #[])) 126 (.tuple #[])) 127 (.tuple #[])) 128 (.tuple #[]),q129.2.1,q129.2.2))
 ).bind fun(q132:R3)=>let t140:Tm:=q132.1
 (gsel (q132.1 103) true
 ((Zl (t140 123) (.bool true) (t140 128)).bind fun v141=>some (put t140 129 v141,q132.2.1,q132.2.2))
 (some (put t140 129 (.tuple #[]),q132.2.1,q132.2.2))
 ).bind fun(q139:R3)=>(Zl (q139.1 103) (q139.1 129) (.bool false)).bind fun v142=>csel v142
 (some (.bool false,q139.2.1,q139.2.2+1))
 ((ld true 3 (q139.1 3) q139.2.1).bind fun v143=>(ld true 8 (q139.1 5) q139.2.1).bind fun v144=>(C 18 [v143,v144] q139.2.1 (q139.2.2+4)).bind fun q145=>some (q145.1,q145.2.1,q145.2.2)))
 (Vs o101.e
 (some (o101.t 2,o101.H,o101.n))))))
theorem s4 (C:Zb)(L:Zc->Zc)(t:Tm)(H:Hp)(n:Nat):Zq Tryz.prog C L Tryz.f4 t H n=S4 C L t H n:=by kernel_rfl
theorem c4 (args:List Value)(H:Hp)(n:Nat):Call Tryz.prog 4 args H n=S4 (Call Tryz.prog) Zm (Zp args) H n:=(Zg Tryz.func4 args H n).trans (s4 ..)
noncomputable def S7 (C:Zb)(L:Zc->Zc)(t:Tm)(H:Hp)(n:Nat):Option (Value × Hp × Nat) :=
 (Zs (t 0)).bind fun c2=>let H1:=H.set (n) (some (.row c2 0 true))
 (Zs (t 1)).bind fun c4=>let H3:=H1.set (n+1) (some (.row c4 0 true))
 let H5:=H3.set (n+2) (some (.row [nilS,.int .i64 0,.int .i64 0,.int .i64 0,.int .i64 0,.int .i64 0,.int .i64 0,.int .i64 0] 0 true))
 (ld true 3 (ptr (n) 0) H5).bind fun v6=>(ld true 8 (ptr (n+1) 0) H5).bind fun v7=>(C 19 [v6,v7] H5 (n+7)).bind fun q8=>(un .not q8.1).bind fun v9=>csel v9
 ((Xf [nilS,.int .i64 0,.int .i64 0,.int .i64 0,.int .i64 0,.int .i64 0,.int .i64 0,.int .i64 0] [(5,1,.int .i64 3),(6,1,.int .i64 7)]).bind fun v10=>(st true 8 (ptr (n+2) 0) v10 q8.2.1).bind fun H11=>(ld true 8 (ptr (n+2) 0) H11).bind fun v12=>some (v12,H11,q8.2.2+2))
 ((Za 5 (ptr (n+1) 0)).bind fun v13=>(ld false 1 v13 q8.2.1).bind fun v14=>(Zd .plain .neq v14 (.int .i64 0)).bind fun v15=>csel v15
 ((ld true 8 (ptr (n+1) 0) q8.2.1).bind fun v16=>(C 23 [v16] q8.2.1 (q8.2.2+6)).bind fun q17=>(st true 8 (ptr (n+2) 0) q17.1 q17.2.1).bind fun H18=>(ld true 8 (ptr (n+2) 0) H18).bind fun v19=>some (v19,H18,q17.2.2))
 ((ld true 3 (ptr (n) 0) q8.2.1).bind fun v20=>(ld true 8 (ptr (n+1) 0) q8.2.1).bind fun v21=>(C 24 [v20,v21] q8.2.1 (q8.2.2+7)).bind fun q22=>(st true 8 (ptr (n+2) 0) q22.1 q22.2.1).bind fun H23=>(ld true 8 (ptr (n+2) 0) H23).bind fun v24=>some (v24,H23,q22.2.2)))
theorem s7 (C:Zb)(L:Zc->Zc)(t:Tm)(H:Hp)(n:Nat):Zq Tryz.prog C L Tryz.f7 t H n=S7 C L t H n:=by kernel_rfl
theorem c7 (args:List Value)(H:Hp)(n:Nat):Call Tryz.prog 7 args H n=S7 (Call Tryz.prog) Zm (Zp args) H n:=(Zg Tryz.func7 args H n).trans (s7 ..)
noncomputable def S10 (C:Zb)(L:Zc->Zc)(t:Tm)(H:Hp)(n:Nat):Option (Value × Hp × Nat) :=
 (Zs (t 0)).bind fun c2=>let H1:=H.set (n) (some (.row c2 0 true))
 (Zs (t 1)).bind fun c4=>let H3:=H1.set (n+1) (some (.row c4 0 true))
 let H5:=H3.set (n+2) (some (.row [nilS,.int .i64 0,.int .i64 0,.int .i64 0,.int .i64 0,.int .i64 0,.int .i64 0,.int .i64 0] 0 true))
 (ld true 3 (ptr (n) 0) H5).bind fun v6=>(ld true 8 (ptr (n+1) 0) H5).bind fun v7=>(C 18 [v6,v7] H5 (n+8)).bind fun q8=>(un .not q8.1).bind fun v9=>csel v9
 ((Xf [nilS,.int .i64 0,.int .i64 0,.int .i64 0,.int .i64 0,.int .i64 0,.int .i64 0,.int .i64 0] [(5,1,.int .i64 3),(6,1,.int .i64 7)]).bind fun v10=>(st true 8 (ptr (n+2) 0) v10 q8.2.1).bind fun H11=>(ld true 8 (ptr (n+2) 0) H11).bind fun v12=>some (v12,H11,q8.2.2+2))
 ((Za 5 (ptr (n+1) 0)).bind fun v13=>(ld false 1 v13 q8.2.1).bind fun v14=>(Zd .plain .neq v14 (.int .i64 0)).bind fun v15=>csel v15
 ((ld true 8 (ptr (n+1) 0) q8.2.1).bind fun v16=>(C 28 [v16] q8.2.1 (q8.2.2+7)).bind fun q17=>(st true 8 (ptr (n+2) 0) q17.1 q17.2.1).bind fun H18=>(ld true 8 (ptr (n+2) 0) H18).bind fun v19=>some (v19,H18,q17.2.2))
 ((ld true 3 (ptr (n) 0) q8.2.1).bind fun v20=>(ld true 8 (ptr (n+1) 0) q8.2.1).bind fun v21=>(C 29 [v20,v21] q8.2.1 (q8.2.2+8)).bind fun q22=>(st true 8 (ptr (n+2) 0) q22.1 q22.2.1).bind fun H23=>(ld true 8 (ptr (n+2) 0) H23).bind fun v24=>some (v24,H23,q22.2.2)))
theorem s10 (C:Zb)(L:Zc->Zc)(t:Tm)(H:Hp)(n:Nat):Zq Tryz.prog C L Tryz.f10 t H n=S10 C L t H n:=by kernel_rfl
theorem c10 (args:List Value)(H:Hp)(n:Nat):Call Tryz.prog 10 args H n=S10 (Call Tryz.prog) Zm (Zp args) H n:=(Zg Tryz.func10 args H n).trans (s10 ..)
noncomputable def S16 (C:Zb)(L:Zc->Zc)(t:Tm)(H:Hp)(n:Nat):Option (Value × Hp × Nat) :=
 (Zx false (t 0)).bind fun v1=>(Zd .plain .gtr v1 (.int .i64 1048576)).bind fun v2=>some (v2,H,n+5)
theorem s16 (C:Zb)(L:Zc->Zc)(t:Tm)(H:Hp)(n:Nat):Zq Tryz.prog C L Tryz.f16 t H n=S16 C L t H n:=by kernel_rfl
theorem c16 (args:List Value)(H:Hp)(n:Nat):Call Tryz.prog 16 args H n=S16 (Call Tryz.prog) Zm (Zp args) H n:=(Zg Tryz.func16 args H n).trans (s16 ..)
noncomputable def S17 (C:Zb)(L:Zc->Zc)(t:Tm)(H:Hp)(n:Nat):Option (Value × Hp × Nat) :=
 let H1:=H.set (n) (some (.row [nilS,nilS,nilS] 0 true))
 let H2:=H1.set (n+1) (some (.row [nilS,.int .i64 0,.int .i64 0,.int .i64 0,.int .i64 0,.int .i64 0,.int .i64 0,.int .i64 0] 0 true))
 (C 38 [t 0] H2 (n+12)).bind fun q3=>(C 37 [q3.1] q3.2.1 (q3.2.2)).bind fun q4=>(ext 0 q4.1).bind fun v5=>(ext 1 q4.1).bind fun v6=>let H7:=q4.2.1.set (n+8) (some (.row [nilS,nilS,nilS] 0 true))
 let H8:=H7.set (n+9) (some (.row [nilS,.int .i64 0,.int .i64 0,.int .i64 0,.int .i64 0,.int .i64 0,.int .i64 0,.int .i64 0] 0 true))
 (st true 3 (ptr (n+8) 0) v5 H8).bind fun H9=>(st true 8 (ptr (n+9) 0) v6 H9).bind fun H10=>(ld true 3 (ptr (n+8) 0) H10).bind fun v11=>(ld true 8 (ptr (n+9) 0) H10).bind fun v12=>(st true 3 (ptr (n) 0) v11 H10).bind fun H13=>ask (ld true 8 (ptr (n+9) 0) H13=some v12) <|(st true 8 (ptr (n+1) 0) v12 H13).bind fun H14=>(ld true 3 (ptr (n) 0) H14).bind fun v15=>(ld true 8 (ptr (n+1) 0) H14).bind fun v16=>Yr ([v15,v16].all notTup) <|some (.tuple ⟨[v15,v16]⟩,H14,q4.2.2+4)
theorem s17 (C:Zb)(L:Zc->Zc)(t:Tm)(H:Hp)(n:Nat):Zq Tryz.prog C L Tryz.f17 t H n=S17 C L t H n:=by kernel_rfl
theorem c17 (args:List Value)(H:Hp)(n:Nat):Call Tryz.prog 17 args H n=S17 (Call Tryz.prog) Zm (Zp args) H n:=(Zg Tryz.func17 args H n).trans (s17 ..)
noncomputable def S18 (C:Zb)(L:Zc->Zc)(t:Tm)(H:Hp)(n:Nat):Option (Value × Hp × Nat) :=
 (Zs (t 0)).bind fun c2=>let H1:=H.set (n) (some (.row c2 0 true))
 (Zs (t 1)).bind fun c4=>let H3:=H1.set (n+1) (some (.row c4 0 true))
 (ld true 3 (ptr (n) 0) H3).bind fun v5=>(C 39 [v5] H3 (n+36)).bind fun q6=>(un .not q6.1).bind fun v7=>let t9:Tm:=put (put (put (put (put (put (put t 2 (ptr (n) 0)) 3 (ptr (n+1) 0)) 4 (.bool false)) 5 v5) 6 q6.1) 7 v7) 8 v7
 (gsel v7 false
 ((Za 0 (ptr (n+1) 0)).bind fun v10=>(ld true 1 v10 q6.2.1).bind fun v11=>(C 40 [v11] q6.2.1 (q6.2.2)).bind fun q12=>(un .not q12.1).bind fun v13=>some (put (put (put (put t9 9 v10) 10 v11) 11 q12.1) 12 v13,q12.2.1,q12.2.2))
 (some (put (put (put (put t9 9 (.tuple #[])) 10 (.tuple #[])) 11 (.tuple #[])) 12 (.tuple #[]),q6.2.1,q6.2.2))
 ).bind fun(q8:R3)=>(Zl (q8.1 8) (.bool true) (q8.1 12)).bind fun v14=>let t16:Tm:=put (put q8.1 13 v14) 14 v14
 (gsel v14 false
 ((Za 0 (t16 3)).bind fun v17=>(ld true 1 v17 q8.2.1).bind fun v18=>(Za 2 (t16 3)).bind fun v19=>(ld false 1 v19 q8.2.1).bind fun v20=>(C 41 [v18,v20] q8.2.1 (q8.2.2)).bind fun q21=>(un .not q21.1).bind fun v22=>some (put (put (put (put (put (put t16 15 v17) 16 v18) 17 v19) 18 v20) 19 q21.1) 20 v22,q21.2.1,q21.2.2))
 (some (put (put (put (put (put (put t16 15 (.tuple #[])) 16 (.tuple #[])) 17 (.tuple #[])) 18 (.tuple #[])) 19 (.tuple #[])) 20 (.tuple #[]),q8.2.1,q8.2.2))
 ).bind fun(q15:R3)=>(Zl (q15.1 14) (.bool true) (q15.1 20)).bind fun v23=>let t25:Tm:=put (put q15.1 21 v23) 22 v23
 (gsel v23 false
 ((Za 0 (t25 3)).bind fun v26=>(ld true 1 v26 q15.2.1).bind fun v27=>(Za 3 (t25 3)).bind fun v28=>(ld false 1 v28 q15.2.1).bind fun v29=>(C 41 [v27,v29] q15.2.1 (q15.2.2)).bind fun q30=>(un .not q30.1).bind fun v31=>some (put (put (put (put (put (put t25 23 v26) 24 v27) 25 v28) 26 v29) 27 q30.1) 28 v31,q30.2.1,q30.2.2))
 (some (put (put (put (put (put (put t25 23 (.tuple #[])) 24 (.tuple #[])) 25 (.tuple #[])) 26 (.tuple #[])) 27 (.tuple #[])) 28 (.tuple #[]),q15.2.1,q15.2.2))
 ).bind fun(q24:R3)=>(Zl (q24.1 22) (.bool true) (q24.1 28)).bind fun v32=>let t34:Tm:=put (put q24.1 29 v32) 30 v32
 (gsel v32 false
 ((Za 0 (t34 3)).bind fun v35=>(ld true 1 v35 q24.2.1).bind fun v36=>(Za 4 (t34 3)).bind fun v37=>(ld false 1 v37 q24.2.1).bind fun v38=>(C 41 [v36,v38] q24.2.1 (q24.2.2)).bind fun q39=>(un .not q39.1).bind fun v40=>some (put (put (put (put (put (put t34 31 v35) 32 v36) 33 v37) 34 v38) 35 q39.1) 36 v40,q39.2.1,q39.2.2))
 (some (put (put (put (put (put (put t34 31 (.tuple #[])) 32 (.tuple #[])) 33 (.tuple #[])) 34 (.tuple #[])) 35 (.tuple #[])) 36 (.tuple #[]),q24.2.1,q24.2.2))
 ).bind fun(q33:R3)=>(Zl (q33.1 30) (.bool true) (q33.1 36)).bind fun v41=>csel v41
 (some (.bool false,q33.2.1,q33.2.2+1))
 ((Za 5 (q33.1 3)).bind fun v42=>(ld false 1 v42 q33.2.1).bind fun v43=>(Zd .plain .eql v43 (.int .i64 0)).bind fun v44=>csel v44
 ((ld true 3 (q33.1 2) q33.2.1).bind fun v45=>(Za 1 (q33.1 3)).bind fun v46=>(ld false 1 v46 q33.2.1).bind fun v47=>(C 42 [v45,v47] q33.2.1 (q33.2.2+19)).bind fun q48=>let t50:Tm:=put (put (put (put (put (put (put (put (put (put q33.1 37 v41) 38 v42) 39 v43) 41 v44) 40 v44) 42 v45) 43 v46) 44 v47) 45 q48.1) 46 q48.1
 (gsel q48.1 true
 ((Za 6 (t50 3)).bind fun v51=>(ld false 1 v51 q48.2.1).bind fun v52=>(Zd .plain .eql v52 (.int .i64 0)).bind fun v53=>some (put (put (put t50 47 v51) 48 v52) 49 v53,q48.2.1,q48.2.2))
 (some (put (put (put t50 47 (.tuple #[])) 48 (.tuple #[])) 49 (.tuple #[]),q48.2.1,q48.2.2))
 ).bind fun(q49:R3)=>(Zl (q49.1 46) (q49.1 49) (.bool false)).bind fun v54=>let t56:Tm:=put (put q49.1 50 v54) 51 v54
 (gsel v54 true
 ((Za 7 (t56 3)).bind fun v57=>(ld false 1 v57 q49.2.1).bind fun v58=>(Zd .plain .eql v58 (.int .i64 0)).bind fun v59=>some (put (put (put t56 52 v57) 53 v58) 54 v59,q49.2.1,q49.2.2))
 (some (put (put (put t56 52 (.tuple #[])) 53 (.tuple #[])) 54 (.tuple #[]),q49.2.1,q49.2.2))
 ).bind fun(q55:R3)=>(Zl (q55.1 51) (q55.1 54) (.bool false)).bind fun v60=>some (v60,q55.2.1,q55.2.2))
 ((Zd .plain .eql v43 (.int .i64 1)).bind fun v61=>csel v61
 ((ld true 3 (q33.1 2) q33.2.1).bind fun v62=>(Za 1 (q33.1 3)).bind fun v63=>(ld false 1 v63 q33.2.1).bind fun v64=>(C 42 [v62,v64] q33.2.1 (q33.2.2+28)).bind fun q65=>let t67:Tm:=put (put (put (put (put (put (put (put (put (put (put (put q33.1 37 v41) 38 v42) 39 v43) 41 v44) 40 v44) 57 v61) 56 v61) 58 v62) 59 v63) 60 v64) 61 q65.1) 62 q65.1
 (gsel q65.1 true
 ((Za 6 (t67 3)).bind fun v68=>(ld false 1 v68 q65.2.1).bind fun v69=>(C 43 [v69,.int .i64 13,.int .i64 19] q65.2.1 (q65.2.2)).bind fun q70=>some (put (put (put t67 63 v68) 64 v69) 65 q70.1,q70.2.1,q70.2.2))
 (some (put (put (put t67 63 (.tuple #[])) 64 (.tuple #[])) 65 (.tuple #[]),q65.2.1,q65.2.2))
 ).bind fun(q66:R3)=>(Zl (q66.1 62) (q66.1 65) (.bool false)).bind fun v71=>let t73:Tm:=put (put q66.1 66 v71) 67 v71
 (gsel v71 true
 ((Za 6 (t73 3)).bind fun v74=>(ld false 1 v74 q66.2.1).bind fun v75=>(Zd .plain .neq v75 (.int .i64 18)).bind fun v76=>some (put (put (put t73 68 v74) 69 v75) 70 v76,q66.2.1,q66.2.2))
 (some (put (put (put t73 68 (.tuple #[])) 69 (.tuple #[])) 70 (.tuple #[]),q66.2.1,q66.2.2))
 ).bind fun(q72:R3)=>(Zl (q72.1 67) (q72.1 70) (.bool false)).bind fun v77=>let t79:Tm:=put (put q72.1 71 v77) 72 v77
 (gsel v77 true
 ((Za 0 (t79 3)).bind fun v80=>(ld true 1 v80 q72.2.1).bind fun v81=>(Za 7 (t79 3)).bind fun v82=>(ld false 1 v82 q72.2.1).bind fun v83=>(C 41 [v81,v83] q72.2.1 (q72.2.2)).bind fun q84=>some (put (put (put (put (put t79 73 v80) 74 v81) 75 v82) 76 v83) 77 q84.1,q84.2.1,q84.2.2))
 (some (put (put (put (put (put t79 73 (.tuple #[])) 74 (.tuple #[])) 75 (.tuple #[])) 76 (.tuple #[])) 77 (.tuple #[]),q72.2.1,q72.2.2))
 ).bind fun(q78:R3)=>(Zl (q78.1 72) (q78.1 77) (.bool false)).bind fun v85=>some (v85,q78.2.1,q78.2.2))
 ((Zd .plain .eql v43 (.int .i64 2)).bind fun v86=>csel v86
 ((Za 1 (q33.1 3)).bind fun v87=>(ld false 1 v87 q33.2.1).bind fun v88=>(Zd .plain .eql v88 (.int .i64 0)).bind fun v89=>let t91:Tm:=put (put (put (put (put (put (put (put (put (put (put (put (put q33.1 37 v41) 38 v42) 39 v43) 41 v44) 40 v44) 57 v61) 56 v61) 80 v86) 79 v86) 81 v87) 82 v88) 83 v89) 84 v89
 (gsel v89 true
 ((Za 6 (t91 3)).bind fun v92=>(ld false 1 v92 q33.2.1).bind fun v93=>(Zd .plain .eql v93 (.int .i64 0)).bind fun v94=>some (put (put (put t91 85 v92) 86 v93) 87 v94,q33.2.1,q33.2.2+24))
 (some (put (put (put t91 85 (.tuple #[])) 86 (.tuple #[])) 87 (.tuple #[]),q33.2.1,q33.2.2+24))
 ).bind fun(q90:R3)=>(Zl (q90.1 84) (q90.1 87) (.bool false)).bind fun v95=>let t97:Tm:=put (put q90.1 88 v95) 89 v95
 (gsel v95 true
 ((Za 0 (t97 3)).bind fun v98=>(ld true 1 v98 q90.2.1).bind fun v99=>(Za 7 (t97 3)).bind fun v100=>(ld false 1 v100 q90.2.1).bind fun v101=>(C 41 [v99,v101] q90.2.1 (q90.2.2)).bind fun q102=>some (put (put (put (put (put t97 90 v98) 91 v99) 92 v100) 93 v101) 94 q102.1,q102.2.1,q102.2.2))
 (some (put (put (put (put (put t97 90 (.tuple #[])) 91 (.tuple #[])) 92 (.tuple #[])) 93 (.tuple #[])) 94 (.tuple #[]),q90.2.1,q90.2.2))
 ).bind fun(q96:R3)=>(Zl (q96.1 89) (q96.1 94) (.bool false)).bind fun v103=>some (v103,q96.2.1,q96.2.2))
 ((Zd .plain .eql v43 (.int .i64 3)).bind fun v104=>csel v104
 ((Za 1 (q33.1 3)).bind fun v105=>(ld false 1 v105 q33.2.1).bind fun v106=>(Zd .plain .eql v106 (.int .i64 0)).bind fun v107=>let t109:Tm:=put (put (put (put (put (put (put (put (put (put (put (put (put (put (put q33.1 37 v41) 38 v42) 39 v43) 41 v44) 40 v44) 57 v61) 56 v61) 80 v86) 79 v86) 97 v104) 96 v104) 98 v105) 99 v106) 100 v107) 101 v107
 (gsel v107 true
 ((Za 6 (t109 3)).bind fun v110=>(ld false 1 v110 q33.2.1).bind fun v111=>(C 43 [v111,.int .i64 1,.int .i64 7] q33.2.1 (q33.2.2+24)).bind fun q112=>some (put (put (put t109 102 v110) 103 v111) 104 q112.1,q112.2.1,q112.2.2))
 (some (put (put (put t109 102 (.tuple #[])) 103 (.tuple #[])) 104 (.tuple #[]),q33.2.1,q33.2.2+24))
 ).bind fun(q108:R3)=>(Zl (q108.1 101) (q108.1 104) (.bool false)).bind fun v113=>let t115:Tm:=put (put q108.1 105 v113) 106 v113
 (gsel v113 true
 ((Za 7 (t115 3)).bind fun v116=>(ld false 1 v116 q108.2.1).bind fun v117=>(Zd .plain .eql v117 (.int .i64 0)).bind fun v118=>some (put (put (put t115 107 v116) 108 v117) 109 v118,q108.2.1,q108.2.2))
 (some (put (put (put t115 107 (.tuple #[])) 108 (.tuple #[])) 109 (.tuple #[]),q108.2.1,q108.2.2))
 ).bind fun(q114:R3)=>(Zl (q114.1 106) (q114.1 109) (.bool false)).bind fun v119=>some (v119,q114.2.1,q114.2.2))
 (some (.bool false,q33.2.1,q33.2.2+11))))))
theorem s18 (C:Zb)(L:Zc->Zc)(t:Tm)(H:Hp)(n:Nat):Zq Tryz.prog C L Tryz.f18 t H n=S18 C L t H n:=by kernel_rfl
theorem c18 (args:List Value)(H:Hp)(n:Nat):Call Tryz.prog 18 args H n=S18 (Call Tryz.prog) Zm (Zp args) H n:=(Zg Tryz.func18 args H n).trans (s18 ..)
noncomputable def S19 (C:Zb)(L:Zc->Zc)(t:Tm)(H:Hp)(n:Nat):Option (Value × Hp × Nat) :=
 (Zs (t 0)).bind fun c2=>let H1:=H.set (n) (some (.row c2 0 true))
 (Zs (t 1)).bind fun c4=>let H3:=H1.set (n+1) (some (.row c4 0 true))
 (ld true 3 (ptr (n) 0) H3).bind fun v5=>(C 44 [v5] H3 (n+36)).bind fun q6=>(un .not q6.1).bind fun v7=>let t9:Tm:=put (put (put (put (put (put (put t 2 (ptr (n) 0)) 3 (ptr (n+1) 0)) 4 (.bool false)) 6 v5) 7 q6.1) 8 v7) 9 v7
 (gsel v7 false
 ((Za 0 (ptr (n+1) 0)).bind fun v10=>(ld true 1 v10 q6.2.1).bind fun v11=>(C 45 [v11] q6.2.1 (q6.2.2)).bind fun q12=>(un .not q12.1).bind fun v13=>some (put (put (put (put t9 10 v10) 11 v11) 12 q12.1) 13 v13,q12.2.1,q12.2.2))
 (some (put (put (put (put t9 10 (.tuple #[])) 11 (.tuple #[])) 12 (.tuple #[])) 13 (.tuple #[]),q6.2.1,q6.2.2))
 ).bind fun(q8:R3)=>(Zl (q8.1 9) (.bool true) (q8.1 13)).bind fun v14=>let t16:Tm:=put (put q8.1 14 v14) 15 v14
 (gsel v14 false
 ((Za 0 (t16 3)).bind fun v17=>(ld true 1 v17 q8.2.1).bind fun v18=>(Za 2 (t16 3)).bind fun v19=>(ld false 1 v19 q8.2.1).bind fun v20=>(C 46 [v18,v20] q8.2.1 (q8.2.2)).bind fun q21=>(un .not q21.1).bind fun v22=>some (put (put (put (put (put (put t16 16 v17) 17 v18) 18 v19) 19 v20) 20 q21.1) 21 v22,q21.2.1,q21.2.2))
 (some (put (put (put (put (put (put t16 16 (.tuple #[])) 17 (.tuple #[])) 18 (.tuple #[])) 19 (.tuple #[])) 20 (.tuple #[])) 21 (.tuple #[]),q8.2.1,q8.2.2))
 ).bind fun(q15:R3)=>(Zl (q15.1 15) (.bool true) (q15.1 21)).bind fun v23=>let t25:Tm:=put (put q15.1 22 v23) 23 v23
 (gsel v23 false
 ((Za 0 (t25 3)).bind fun v26=>(ld true 1 v26 q15.2.1).bind fun v27=>(Za 3 (t25 3)).bind fun v28=>(ld false 1 v28 q15.2.1).bind fun v29=>(C 46 [v27,v29] q15.2.1 (q15.2.2)).bind fun q30=>(un .not q30.1).bind fun v31=>some (put (put (put (put (put (put t25 24 v26) 25 v27) 26 v28) 27 v29) 28 q30.1) 29 v31,q30.2.1,q30.2.2))
 (some (put (put (put (put (put (put t25 24 (.tuple #[])) 25 (.tuple #[])) 26 (.tuple #[])) 27 (.tuple #[])) 28 (.tuple #[])) 29 (.tuple #[]),q15.2.1,q15.2.2))
 ).bind fun(q24:R3)=>(Zl (q24.1 23) (.bool true) (q24.1 29)).bind fun v32=>let t34:Tm:=put (put q24.1 30 v32) 31 v32
 (gsel v32 false
 ((Za 0 (t34 3)).bind fun v35=>(ld true 1 v35 q24.2.1).bind fun v36=>(Za 4 (t34 3)).bind fun v37=>(ld false 1 v37 q24.2.1).bind fun v38=>(C 46 [v36,v38] q24.2.1 (q24.2.2)).bind fun q39=>(un .not q39.1).bind fun v40=>some (put (put (put (put (put (put t34 32 v35) 33 v36) 34 v37) 35 v38) 36 q39.1) 37 v40,q39.2.1,q39.2.2))
 (some (put (put (put (put (put (put t34 32 (.tuple #[])) 33 (.tuple #[])) 34 (.tuple #[])) 35 (.tuple #[])) 36 (.tuple #[])) 37 (.tuple #[]),q24.2.1,q24.2.2))
 ).bind fun(q33:R3)=>(Zl (q33.1 31) (.bool true) (q33.1 37)).bind fun v41=>csel v41
 (some (.bool false,q33.2.1,q33.2.2+1))
 ((Za 1 (q33.1 3)).bind fun v42=>(ld false 1 v42 q33.2.1).bind fun v43=>(Za 1 (q33.1 2)).bind fun v44=>(ld false 1 v44 q33.2.1).bind fun v45=>(Zx false v45).bind fun v46=>(Zd .plain .sub v46 (.int .i64 1)).bind fun v47=>(C 47 [v43,.int .i64 0,v47] q33.2.1 (q33.2.2+8)).bind fun q48=>(Za 5 (q33.1 3)).bind fun v49=>(ld false 1 v49 q48.2.1).bind fun v50=>(Zd .plain .eql v50 (.int .i64 0)).bind fun v51=>csel v51
 (let t53:Tm:=put (put (put (put (put (put (put (put (put (put (put (put (put (put (put q33.1 38 v41) 39 v42) 40 v43) 41 v44) 42 v45) 43 v46) 44 v47) 45 q48.1) 5 q48.1) 46 v49) 47 v50) 49 v51) 48 v51) 50 q48.1) 51 q48.1
 (gsel q48.1 true
 ((Za 6 (t53 3)).bind fun v54=>(ld false 1 v54 q48.2.1).bind fun v55=>(Zd .plain .eql v55 (.int .i64 0)).bind fun v56=>some (put (put (put t53 52 v54) 53 v55) 54 v56,q48.2.1,q48.2.2+16))
 (some (put (put (put t53 52 (.tuple #[])) 53 (.tuple #[])) 54 (.tuple #[]),q48.2.1,q48.2.2+16))
 ).bind fun(q52:R3)=>(Zl (q52.1 51) (q52.1 54) (.bool false)).bind fun v57=>let t59:Tm:=put (put q52.1 55 v57) 56 v57
 (gsel v57 true
 ((Za 7 (t59 3)).bind fun v60=>(ld false 1 v60 q52.2.1).bind fun v61=>(Zd .plain .eql v61 (.int .i64 0)).bind fun v62=>some (put (put (put t59 57 v60) 58 v61) 59 v62,q52.2.1,q52.2.2))
 (some (put (put (put t59 57 (.tuple #[])) 58 (.tuple #[])) 59 (.tuple #[]),q52.2.1,q52.2.2))
 ).bind fun(q58:R3)=>(Zl (q58.1 56) (q58.1 59) (.bool false)).bind fun v63=>some (v63,q58.2.1,q58.2.2))
 ((Zd .plain .eql v50 (.int .i64 1)).bind fun v64=>csel v64
 (let t66:Tm:=put (put (put (put (put (put (put (put (put (put (put (put (put (put (put (put (put q33.1 38 v41) 39 v42) 40 v43) 41 v44) 42 v45) 43 v46) 44 v47) 45 q48.1) 5 q48.1) 46 v49) 47 v50) 49 v51) 48 v51) 62 v64) 61 v64) 63 q48.1) 64 q48.1
 (gsel q48.1 true
 ((Za 6 (t66 3)).bind fun v67=>(ld false 1 v67 q48.2.1).bind fun v68=>(C 47 [v68,.int .i64 13,.int .i64 19] q48.2.1 (q48.2.2+25)).bind fun q69=>some (put (put (put t66 65 v67) 66 v68) 67 q69.1,q69.2.1,q69.2.2))
 (some (put (put (put t66 65 (.tuple #[])) 66 (.tuple #[])) 67 (.tuple #[]),q48.2.1,q48.2.2+25))
 ).bind fun(q65:R3)=>(Zl (q65.1 64) (q65.1 67) (.bool false)).bind fun v70=>let t72:Tm:=put (put q65.1 68 v70) 69 v70
 (gsel v70 true
 ((Za 6 (t72 3)).bind fun v73=>(ld false 1 v73 q65.2.1).bind fun v74=>(Zd .plain .neq v74 (.int .i64 18)).bind fun v75=>some (put (put (put t72 70 v73) 71 v74) 72 v75,q65.2.1,q65.2.2))
 (some (put (put (put t72 70 (.tuple #[])) 71 (.tuple #[])) 72 (.tuple #[]),q65.2.1,q65.2.2))
 ).bind fun(q71:R3)=>(Zl (q71.1 69) (q71.1 72) (.bool false)).bind fun v76=>let t78:Tm:=put (put q71.1 73 v76) 74 v76
 (gsel v76 true
 ((Za 0 (t78 3)).bind fun v79=>(ld true 1 v79 q71.2.1).bind fun v80=>(Za 7 (t78 3)).bind fun v81=>(ld false 1 v81 q71.2.1).bind fun v82=>(C 46 [v80,v82] q71.2.1 (q71.2.2)).bind fun q83=>some (put (put (put (put (put t78 75 v79) 76 v80) 77 v81) 78 v82) 79 q83.1,q83.2.1,q83.2.2))
 (some (put (put (put (put (put t78 75 (.tuple #[])) 76 (.tuple #[])) 77 (.tuple #[])) 78 (.tuple #[])) 79 (.tuple #[]),q71.2.1,q71.2.2))
 ).bind fun(q77:R3)=>(Zl (q77.1 74) (q77.1 79) (.bool false)).bind fun v84=>some (v84,q77.2.1,q77.2.2))
 ((Zd .plain .eql v50 (.int .i64 2)).bind fun v85=>csel v85
 ((Za 1 (q33.1 3)).bind fun v86=>(ld false 1 v86 q48.2.1).bind fun v87=>(Zd .plain .eql v87 (.int .i64 0)).bind fun v88=>let t90:Tm:=put (put (put (put (put (put (put (put (put (put (put (put (put (put (put (put (put (put (put (put (put q33.1 38 v41) 39 v42) 40 v43) 41 v44) 42 v45) 43 v46) 44 v47) 45 q48.1) 5 q48.1) 46 v49) 47 v50) 49 v51) 48 v51) 62 v64) 61 v64) 82 v85) 81 v85) 83 v86) 84 v87) 85 v88) 86 v88
 (gsel v88 true
 ((Za 6 (t90 3)).bind fun v91=>(ld false 1 v91 q48.2.1).bind fun v92=>(Zd .plain .eql v92 (.int .i64 0)).bind fun v93=>some (put (put (put t90 87 v91) 88 v92) 89 v93,q48.2.1,q48.2.2+24))
 (some (put (put (put t90 87 (.tuple #[])) 88 (.tuple #[])) 89 (.tuple #[]),q48.2.1,q48.2.2+24))
 ).bind fun(q89:R3)=>(Zl (q89.1 86) (q89.1 89) (.bool false)).bind fun v94=>let t96:Tm:=put (put q89.1 90 v94) 91 v94
 (gsel v94 true
 ((Za 0 (t96 3)).bind fun v97=>(ld true 1 v97 q89.2.1).bind fun v98=>(Za 7 (t96 3)).bind fun v99=>(ld false 1 v99 q89.2.1).bind fun v100=>(C 46 [v98,v100] q89.2.1 (q89.2.2)).bind fun q101=>some (put (put (put (put (put t96 92 v97) 93 v98) 94 v99) 95 v100) 96 q101.1,q101.2.1,q101.2.2))
 (some (put (put (put (put (put t96 92 (.tuple #[])) 93 (.tuple #[])) 94 (.tuple #[])) 95 (.tuple #[])) 96 (.tuple #[]),q89.2.1,q89.2.2))
 ).bind fun(q95:R3)=>(Zl (q95.1 91) (q95.1 96) (.bool false)).bind fun v102=>some (v102,q95.2.1,q95.2.2))
 ((Zd .plain .eql v50 (.int .i64 3)).bind fun v103=>csel v103
 ((Za 1 (q33.1 3)).bind fun v104=>(ld false 1 v104 q48.2.1).bind fun v105=>(Zd .plain .eql v105 (.int .i64 0)).bind fun v106=>let t108:Tm:=put (put (put (put (put (put (put (put (put (put (put (put (put (put (put (put (put (put (put (put (put (put (put q33.1 38 v41) 39 v42) 40 v43) 41 v44) 42 v45) 43 v46) 44 v47) 45 q48.1) 5 q48.1) 46 v49) 47 v50) 49 v51) 48 v51) 62 v64) 61 v64) 82 v85) 81 v85) 99 v103) 98 v103) 100 v104) 101 v105) 102 v106) 103 v106
 (gsel v106 true
 ((Za 6 (t108 3)).bind fun v109=>(ld false 1 v109 q48.2.1).bind fun v110=>(C 47 [v110,.int .i64 1,.int .i64 7] q48.2.1 (q48.2.2+24)).bind fun q111=>some (put (put (put t108 104 v109) 105 v110) 106 q111.1,q111.2.1,q111.2.2))
 (some (put (put (put t108 104 (.tuple #[])) 105 (.tuple #[])) 106 (.tuple #[]),q48.2.1,q48.2.2+24))
 ).bind fun(q107:R3)=>(Zl (q107.1 103) (q107.1 106) (.bool false)).bind fun v112=>let t114:Tm:=put (put q107.1 107 v112) 108 v112
 (gsel v112 true
 ((Za 7 (t114 3)).bind fun v115=>(ld false 1 v115 q107.2.1).bind fun v116=>(Zd .plain .eql v116 (.int .i64 0)).bind fun v117=>some (put (put (put t114 109 v115) 110 v116) 111 v117,q107.2.1,q107.2.2))
 (some (put (put (put t114 109 (.tuple #[])) 110 (.tuple #[])) 111 (.tuple #[]),q107.2.1,q107.2.2))
 ).bind fun(q113:R3)=>(Zl (q113.1 108) (q113.1 111) (.bool false)).bind fun v118=>some (v118,q113.2.1,q113.2.2))
 (some (.bool false,q48.2.1,q48.2.2+11))))))
theorem s19 (C:Zb)(L:Zc->Zc)(t:Tm)(H:Hp)(n:Nat):Zq Tryz.prog C L Tryz.f19 t H n=S19 C L t H n:=by kernel_rfl
theorem c19 (args:List Value)(H:Hp)(n:Nat):Call Tryz.prog 19 args H n=S19 (Call Tryz.prog) Zm (Zp args) H n:=(Zg Tryz.func19 args H n).trans (s19 ..)
noncomputable def S23 (C:Zb)(L:Zc->Zc)(t:Tm)(H:Hp)(n:Nat):Option (Value × Hp × Nat) :=
 (Zs (t 0)).bind fun c2=>let H1:=H.set (n) (some (.row c2 0 true))
 let H3:=H1.set (n+1) (some (.row [nilS,.int .i64 0,.int .i64 0,.int .i64 0,.int .i64 0,.int .i64 0,.int .i64 0,.int .i64 0] 0 true))
 (Za 0 (ptr (n) 0)).bind fun v4=>(ld true 1 v4 H3).bind fun v5=>(C 51 [v5] H3 (n+7)).bind fun q6=>(Za 0 (ptr (n) 0)).bind fun v7=>(st true 1 v7 q6.1 q6.2.1).bind fun H8=>(ld true 8 (ptr (n) 0) H8).bind fun v9=>(st true 8 (ptr (n+1) 0) v9 H8).bind fun H10=>(ld true 8 (ptr (n+1) 0) H10).bind fun v11=>some (v11,H10,q6.2.2+2)
theorem s23 (C:Zb)(L:Zc->Zc)(t:Tm)(H:Hp)(n:Nat):Zq Tryz.prog C L Tryz.f23 t H n=S23 C L t H n:=by kernel_rfl
theorem c23 (args:List Value)(H:Hp)(n:Nat):Call Tryz.prog 23 args H n=S23 (Call Tryz.prog) Zm (Zp args) H n:=(Zg Tryz.func23 args H n).trans (s23 ..)
noncomputable def S24 (C:Zb)(L:Zc->Zc)(t:Tm)(H:Hp)(n:Nat):Option (Value × Hp × Nat) :=
 (Zs (t 0)).bind fun c2=>let H1:=H.set (n) (some (.row c2 0 true))
 (Zs (t 1)).bind fun c4=>let H3:=H1.set (n+1) (some (.row c4 0 true))
 let H5:=H3.set (n+2) (some (.row [nilS,.int .i64 0,.int .i64 0,.int .i64 0,.int .i64 0,.int .i64 0,.int .i64 0,.int .i64 0] 0 true))
 (ld true 8 (ptr (n+1) 0) H5).bind fun v6=>(C 23 [v6] H5 (n+7)).bind fun q7=>let H8:=q7.2.1.set (n+5) (some (.row [nilS,.int .i64 0,.int .i64 0,.int .i64 0,.int .i64 0,.int .i64 0,.int .i64 0,.int .i64 0] 0 true))
 (st true 8 (ptr (n+5) 0) q7.1 H8).bind fun H9=>(ld true 3 (ptr (n) 0) H9).bind fun v10=>(Za 1 (ptr (n) 0)).bind fun v11=>(ld false 1 v11 H9).bind fun v12=>(Za 1 (ptr (n+1) 0)).bind fun v13=>(ld false 1 v13 H9).bind fun v14=>(Zo 4 v12 v14).bind fun v15=>(ld true 4 v15 H9).bind fun v16=>(C 52 [v10,ptr (n+5) 0,v16] H9 (q7.2.2+9)).bind fun q17=>(Zd .plain .neq q17.1 (.int .i64 0)).bind fun v18=>csel v18
 ((ld true 8 (ptr (n+1) 0) q17.2.1).bind fun v19=>(C 53 [v19,q17.1] q17.2.1 (q17.2.2+7)).bind fun q20=>(st true 8 (ptr (n+2) 0) q20.1 q20.2.1).bind fun H21=>(ld true 8 (ptr (n+2) 0) H21).bind fun v22=>some (v22,H21,q20.2.2))
 ((Za 1 (ptr (n+5) 0)).bind fun v23=>(ld false 1 v23 q17.2.1).bind fun v24=>(Za 1 (ptr (n) 0)).bind fun v25=>(ld false 1 v25 q17.2.1).bind fun v26=>(Zx false v26).bind fun v27=>(Zd .plain .sub v27 (.int .i64 1)).bind fun v28=>(C 47 [v24,.int .i64 0,v28] q17.2.1 (q17.2.2+12)).bind fun q29=>(un .not q29.1).bind fun v30=>csel v30
 ((ld true 8 (ptr (n+1) 0) q29.2.1).bind fun v31=>(C 53 [v31,.int .i64 7] q29.2.1 (q29.2.2+3)).bind fun q32=>(st true 8 (ptr (n+2) 0) q32.1 q32.2.1).bind fun H33=>(ld true 8 (ptr (n+2) 0) H33).bind fun v34=>some (v34,H33,q32.2.2))
 ((Za 0 (ptr (n+5) 0)).bind fun v35=>(Za 0 v35).bind fun v36=>(ld false 1 v36 q29.2.1).bind fun v37=>(Zx false v37).bind fun v38=>(Zd .plain .gtr v38 (.int .i64 3000)).bind fun v39=>csel v39
 ((ld true 8 (ptr (n+1) 0) q29.2.1).bind fun v40=>(C 53 [v40,.int .i64 6] q29.2.1 (q29.2.2+9)).bind fun q41=>(st true 8 (ptr (n+2) 0) q41.1 q41.2.1).bind fun H42=>(ld true 8 (ptr (n+2) 0) H42).bind fun v43=>some (v43,H42,q41.2.2))
 ((ld true 8 (ptr (n+5) 0) q29.2.1).bind fun v44=>(st true 8 (ptr (n+2) 0) v44 q29.2.1).bind fun H45=>(ld true 8 (ptr (n+2) 0) H45).bind fun v46=>some (v46,H45,q29.2.2+8))))
theorem s24 (C:Zb)(L:Zc->Zc)(t:Tm)(H:Hp)(n:Nat):Zq Tryz.prog C L Tryz.f24 t H n=S24 C L t H n:=by kernel_rfl
theorem c24 (args:List Value)(H:Hp)(n:Nat):Call Tryz.prog 24 args H n=S24 (Call Tryz.prog) Zm (Zp args) H n:=(Zg Tryz.func24 args H n).trans (s24 ..)
noncomputable def S28 (C:Zb)(L:Zc->Zc)(t:Tm)(H:Hp)(n:Nat):Option (Value × Hp × Nat) :=
 (Zs (t 0)).bind fun c2=>let H1:=H.set (n) (some (.row c2 0 true))
 let H3:=H1.set (n+1) (some (.row [nilS,.int .i64 0,.int .i64 0,.int .i64 0,.int .i64 0,.int .i64 0,.int .i64 0,.int .i64 0] 0 true))
 (Za 0 (ptr (n) 0)).bind fun v4=>(ld true 1 v4 H3).bind fun v5=>(C 57 [v5] H3 (n+7)).bind fun q6=>(Za 0 (ptr (n) 0)).bind fun v7=>(st true 1 v7 q6.1 q6.2.1).bind fun H8=>(ld true 8 (ptr (n) 0) H8).bind fun v9=>(st true 8 (ptr (n+1) 0) v9 H8).bind fun H10=>(ld true 8 (ptr (n+1) 0) H10).bind fun v11=>some (v11,H10,q6.2.2+2)
theorem s28 (C:Zb)(L:Zc->Zc)(t:Tm)(H:Hp)(n:Nat):Zq Tryz.prog C L Tryz.f28 t H n=S28 C L t H n:=by kernel_rfl
theorem c28 (args:List Value)(H:Hp)(n:Nat):Call Tryz.prog 28 args H n=S28 (Call Tryz.prog) Zm (Zp args) H n:=(Zg Tryz.func28 args H n).trans (s28 ..)
noncomputable def S29 (C:Zb)(L:Zc->Zc)(t:Tm)(H:Hp)(n:Nat):Option (Value × Hp × Nat) :=
 (Zs (t 0)).bind fun c2=>let H1:=H.set (n) (some (.row c2 0 true))
 (Zs (t 1)).bind fun c4=>let H3:=H1.set (n+1) (some (.row c4 0 true))
 let H5:=H3.set (n+2) (some (.row [nilS,.int .i64 0,.int .i64 0,.int .i64 0,.int .i64 0,.int .i64 0,.int .i64 0,.int .i64 0] 0 true))
 (ld true 8 (ptr (n+1) 0) H5).bind fun v6=>(C 28 [v6] H5 (n+9)).bind fun q7=>(ld true 3 (ptr (n) 0) q7.2.1).bind fun v8=>ask (ld true 3 (ptr (n) 0) H5=some v8) <|(Xf [nilS,.int .i64 0,.int .i64 0,.int .i64 0,.int .i64 0,.int .i64 0,.int .i64 0,.int .i64 0,nilS,nilS,nilS] [(0,8,q7.1),(8,3,v8)]).bind fun v9=>(Zs v9).bind fun c11=>let H10:=q7.2.1.set (n+7) (some (.row c11 0 true))
 (Za 1 (ptr (n) 0)).bind fun v12=>(ld false 1 v12 H10).bind fun v13=>(Za 1 (ptr (n+1) 0)).bind fun v14=>(ld false 1 v14 H10).bind fun v15=>(Zo 4 v13 v15).bind fun v16=>(ld true 4 v16 H10).bind fun v17=>let H18:=H10.set (q7.2.2+7) (some (.row [.int .i64 0,.int .i64 0,.int .i64 0,.string ⟨#[]⟩] 0 true))
 (st true 4 (ptr (q7.2.2+7) 0) v17 H18).bind fun H19=>(Za 0 (ptr (q7.2.2+7) 0)).bind fun v20=>(ld false 1 v20 H19).bind fun v21=>(Zd .plain .eql v21 (.int .i64 7)).bind fun v22=>let t24:Tm:=put (put (put (put (put (put (put (put (put (put (put (put (put (put (put (put (put (put (put (put (put t 2 (ptr (n) 0)) 3 (ptr (n+1) 0)) 4 (ptr (n+2) 0)) 8 v6) 9 q7.1) 10 v8) 11 v9) 12 (ptr (n+7) 0)) 5 (ptr (n+7) 0)) 6 (.int .i64 0)) 13 v12) 14 v13) 15 v14) 16 v15) 17 v16) 18 v17) 7 (ptr (q7.2.2+7) 0)) 19 v20) 20 v21) 25 v22) 24 v22
 (csel v22
 ((Za 2 (ptr (q7.2.2+7) 0)).bind fun v25=>(ld false 1 v25 H19).bind fun v26=>(C 58 [ptr (n+7) 0,v26] H19 (q7.2.2+18)).bind fun q27=>some ⟨.normal,put (put (put (put (put t24 26 (ptr (n+7) 0)) 27 v25) 28 v26) 29 q27.1) 6 q27.1,q27.2.1,q27.2.2⟩)
 ((Zd .plain .eql v21 (.int .i64 8)).bind fun v28=>let t30:Tm:=put (put t24 31 v28) 30 v28
 (csel v28
 ((C 59 [ptr (n+7) 0] H19 (q7.2.2+18)).bind fun q31=>some ⟨.normal,put (put (put t30 32 (ptr (n+7) 0)) 33 q31.1) 6 q31.1,q31.2.1,q31.2.2⟩)
 ((ld true 4 (ptr (q7.2.2+7) 0) H19).bind fun v32=>(C 60 [ptr (n+7) 0,v32] H19 (q7.2.2+19)).bind fun q33=>some ⟨.normal,put (put (put (put t30 21 (ptr (n+7) 0)) 22 v32) 23 q33.1) 6 q33.1,q33.2.1,q33.2.2⟩)
 ).bind fun(o29:Out)=>some ⟨.normal,o29.t,o29.H,o29.n⟩)
 ).bind fun(o23:Out)=>(Zd .plain .eql (o23.t 6) (.int .i64 0)).bind fun v34=>let t36:Tm:=put (put (put o23.t 34 (o23.t 6)) 35 v34) 36 v34
 (gsel v34 true
 ((Zh (t36 5)).bind fun v37=>(Za 0 v37).bind fun v38=>(Za 0 v38).bind fun v39=>(Za 0 v39).bind fun v40=>(ld false 1 v40 o23.H).bind fun v41=>(Zx false v41).bind fun v42=>(Zd .plain .gtr v42 (.int .i64 3000)).bind fun v43=>some (put (put (put (put (put (put (put (put t36 37 (t36 5)) 38 v37) 39 v38) 40 v39) 41 v40) 42 v41) 43 v42) 44 v43,o23.H,o23.n+12))
 (some (put (put (put (put (put (put (put (put t36 37 (.tuple #[])) 38 (.tuple #[])) 39 (.tuple #[])) 40 (.tuple #[])) 41 (.tuple #[])) 42 (.tuple #[])) 43 (.tuple #[])) 44 (.tuple #[]),o23.H,o23.n+12))
 ).bind fun(q35:R3)=>(Zl (q35.1 36) (q35.1 44) (.bool false)).bind fun v44=>let t46:Tm:=put q35.1 45 v44
 (csel v44
 (some ⟨.normal,put t46 6 (.int .i64 6),q35.2.1,q35.2.2+1⟩)
 (some ⟨.normal,t46,q35.2.1,q35.2.2⟩)
 ).bind fun(o45:Out)=>(Zd .plain .neq (o45.t 6) (.int .i64 0)).bind fun v47=>csel v47
 ((ld true 8 (o45.t 3) o45.H).bind fun v48=>(C 61 [v48,o45.t 6] o45.H (o45.n+6)).bind fun q49=>(st true 8 (o45.t 4) q49.1 q49.2.1).bind fun H50=>(ld true 8 (o45.t 4) H50).bind fun v51=>some (v51,H50,q49.2.2))
 ((Zh (o45.t 5)).bind fun v52=>(Za 0 v52).bind fun v53=>(ld true 8 v53 o45.H).bind fun v54=>(st true 8 (o45.t 4) v54 o45.H).bind fun H55=>(ld true 8 (o45.t 4) H55).bind fun v56=>some (v56,H55,o45.n+7))
theorem s29 (C:Zb)(L:Zc->Zc)(t:Tm)(H:Hp)(n:Nat):Zq Tryz.prog C L Tryz.f29 t H n=S29 C L t H n:=by kernel_rfl
theorem c29 (args:List Value)(H:Hp)(n:Nat):Call Tryz.prog 29 args H n=S29 (Call Tryz.prog) Zm (Zp args) H n:=(Zg Tryz.func29 args H n).trans (s29 ..)
noncomputable def S37 (C:Zb)(L:Zc->Zc)(t:Tm)(H:Hp)(n:Nat):Option (Value × Hp × Nat) :=
 let H1:=H.set (n) (some (.row [nilS,nilS,nilS] 0 true))
 let H2:=H1.set (n+1) (some (.row [nilS,.int .i64 0,.int .i64 0,.int .i64 0,.int .i64 0,.int .i64 0,.int .i64 0,.int .i64 0] 0 true))
 (C 68 [t 0] H2 (n+11)).bind fun q3=>(ext 0 q3.1).bind fun v4=>(ext 1 q3.1).bind fun v5=>let H6:=q3.2.1.set (n+7) (some (.row [nilS,nilS,nilS] 0 true))
 let H7:=H6.set (n+8) (some (.row [nilS,.int .i64 0,.int .i64 0,.int .i64 0,.int .i64 0,.int .i64 0,.int .i64 0,.int .i64 0] 0 true))
 (st true 3 (ptr (n+7) 0) v4 H7).bind fun H8=>(st true 8 (ptr (n+8) 0) v5 H8).bind fun H9=>(C 69 [t 0,.int .i64 30] H9 (q3.2.2+2)).bind fun q10=>(Zd .plain .eql q10.1 (.int .i64 0)).bind fun v11=>let t13:Tm:=put (put (put (put (put (put (put (put (put (put (put (put (put t 2 (ptr (n) 0)) 3 (ptr (n+1) 0)) 7 (t 0)) 8 q3.1) 6 q3.1) 9 v4) 10 v5) 4 (ptr (n+7) 0)) 5 (ptr (n+8) 0)) 11 (t 0)) 12 q10.1) 14 v11) 13 v11
 (csel v11
 ((Za 1 (ptr (n+7) 0)).bind fun v14=>(ld false 1 v14 q10.2.1).bind fun v15=>(Zx false v15).bind fun v16=>(Zd .plain .sub v16 (.int .i64 1)).bind fun v17=>(Za 1 (ptr (n+7) 0)).bind fun v18=>(ld false 1 v18 q10.2.1).bind fun v19=>(Zx false v19).bind fun v20=>(C 69 [t13 0,.int .i64 50] q10.2.1 (q10.2.2+16)).bind fun q21=>ask (ld false 1 v18 q21.2.1=some v19) <|ask (ld false 1 v14 q21.2.1=some v15) <|(Xx (q10.2.2+12) 1 5 [.int .i64 0] [(0,1,.int .i64 (-1)),(1,1,.int .i64 0),(2,1,v17),(3,1,v20),(4,1,q21.1)] q21.2.1).bind fun p22=>(C 70 [t13 0,p22.1] p22.2 (q21.2.2)).bind fun q23=>(Za 1 (ptr (n+8) 0)).bind fun v24=>(st false 1 v24 q23.1 q23.2.1).bind fun H25=>some ⟨.normal,put (put (put (put (put (put (put (put (put (put (put (put (put t13 15 (t13 0)) 16 v14) 17 v15) 18 v16) 19 v17) 20 v18) 21 v19) 22 v20) 23 (t13 0)) 24 q21.1) 25 p22.1) 26 q23.1) 27 v24,H25,q23.2.2⟩)
 ((Zd .plain .eql q10.1 (.int .i64 1)).bind fun v26=>let t28:Tm:=put (put t13 29 v26) 28 v26
 (csel v26
 ((C 69 [t28 0,.int .i64 5] q10.2.1 (q10.2.2+8)).bind fun q29=>(Za 5 (ptr (n+8) 0)).bind fun v30=>(st false 1 v30 q29.1 q29.2.1).bind fun H31=>some ⟨.normal,put (put (put t28 30 (t28 0)) 31 q29.1) 32 v30,H31,q29.2.2⟩)
 ((Zd .plain .eql q10.1 (.int .i64 2)).bind fun v32=>let t34:Tm:=put (put t28 34 v32) 33 v32
 (csel v32
 ((C 69 [t34 0,.int .i64 21] q10.2.1 (q10.2.2+10)).bind fun q35=>(Za 6 (ptr (n+8) 0)).bind fun v36=>(st false 1 v36 q35.1 q35.2.1).bind fun H37=>some ⟨.normal,put (put (put t34 35 (t34 0)) 36 q35.1) 37 v36,H37,q35.2.2⟩)
 ((Zd .plain .eql q10.1 (.int .i64 3)).bind fun v38=>let t40:Tm:=put (put t34 39 v38) 38 v38
 (csel v38
 ((Za 0 (ptr (n+8) 0)).bind fun v41=>(ld true 1 v41 q10.2.1).bind fun v42=>(C 71 [t40 0,v42] q10.2.1 (q10.2.2+14)).bind fun q43=>(Za 7 (ptr (n+8) 0)).bind fun v44=>(st false 1 v44 q43.1 q43.2.1).bind fun H45=>some ⟨.normal,put (put (put (put (put t40 40 (t40 0)) 41 v41) 42 v42) 43 q43.1) 44 v44,H45,q43.2.2⟩)
 ((Zd .plain .eql q10.1 (.int .i64 4)).bind fun v46=>let t48:Tm:=put (put t40 46 v46) 45 v46
 (csel v46
 ((Za 0 (ptr (n+8) 0)).bind fun v49=>(ld true 1 v49 q10.2.1).bind fun v50=>(C 71 [t48 0,v50] q10.2.1 (q10.2.2+16)).bind fun q51=>(Za 2 (ptr (n+8) 0)).bind fun v52=>(st false 1 v52 q51.1 q51.2.1).bind fun H53=>some ⟨.normal,put (put (put (put (put t48 47 (t48 0)) 48 v49) 49 v50) 50 q51.1) 51 v52,H53,q51.2.2⟩)
 ((Zd .plain .eql q10.1 (.int .i64 5)).bind fun v54=>let t56:Tm:=put (put t48 53 v54) 52 v54
 (csel v54
 ((Za 0 (ptr (n+8) 0)).bind fun v57=>(ld true 1 v57 q10.2.1).bind fun v58=>(C 71 [t56 0,v58] q10.2.1 (q10.2.2+18)).bind fun q59=>(Za 3 (ptr (n+8) 0)).bind fun v60=>(st false 1 v60 q59.1 q59.2.1).bind fun H61=>some ⟨.normal,put (put (put (put (put t56 54 (t56 0)) 55 v57) 56 v58) 57 q59.1) 58 v60,H61,q59.2.2⟩)
 ((Zd .plain .eql q10.1 (.int .i64 6)).bind fun v62=>let t64:Tm:=put (put t56 60 v62) 59 v62
 (csel v62
 ((Za 0 (ptr (n+8) 0)).bind fun v65=>(ld true 1 v65 q10.2.1).bind fun v66=>(C 71 [t64 0,v66] q10.2.1 (q10.2.2+20)).bind fun q67=>(Za 4 (ptr (n+8) 0)).bind fun v68=>(st false 1 v68 q67.1 q67.2.1).bind fun H69=>some ⟨.normal,put (put (put (put (put t64 61 (t64 0)) 62 v65) 63 v66) 64 q67.1) 65 v68,H69,q67.2.2⟩)
 ((Zd .plain .eql q10.1 (.int .i64 7)).bind fun v70=>let t72:Tm:=put (put t64 67 v70) 66 v70
 (csel v70
 ((C 72 [t72 0] q10.2.1 (q10.2.2+19)).bind fun q73=>(st true 3 (ptr (n+7) 0) q73.1 q73.2.1).bind fun H74=>some ⟨.normal,put (put t72 68 (t72 0)) 69 q73.1,H74,q73.2.2⟩)
 ((Zd .plain .eql q10.1 (.int .i64 8)).bind fun v75=>let t77:Tm:=put (put t72 71 v75) 70 v75
 (csel v75
 ((C 73 [t77 0] q10.2.1 (q10.2.2+22)).bind fun q78=>(Za 0 (ptr (n+8) 0)).bind fun v79=>(st true 1 v79 q78.1 q78.2.1).bind fun H80=>some ⟨.normal,put (put (put t77 72 (t77 0)) 73 q78.1) 74 v79,H80,q78.2.2⟩)
 (some ⟨.normal,t77,q10.2.1,q10.2.2+18⟩)
 ).bind fun(o76:Out)=>some ⟨.normal,o76.t,o76.H,o76.n⟩)
 ).bind fun(o71:Out)=>some ⟨.normal,o71.t,o71.H,o71.n⟩)
 ).bind fun(o63:Out)=>some ⟨.normal,o63.t,o63.H,o63.n⟩)
 ).bind fun(o55:Out)=>some ⟨.normal,o55.t,o55.H,o55.n⟩)
 ).bind fun(o47:Out)=>some ⟨.normal,o47.t,o47.H,o47.n⟩)
 ).bind fun(o39:Out)=>some ⟨.normal,o39.t,o39.H,o39.n⟩)
 ).bind fun(o33:Out)=>some ⟨.normal,o33.t,o33.H,o33.n⟩)
 ).bind fun(o27:Out)=>some ⟨.normal,o27.t,o27.H,o27.n⟩)
 ).bind fun(o12:Out)=>(ld true 3 (o12.t 4) o12.H).bind fun v81=>(ld true 8 (o12.t 5) o12.H).bind fun v82=>(st true 3 (o12.t 2) v81 o12.H).bind fun H83=>ask (ld true 8 (o12.t 5) H83=some v82) <|(st true 8 (o12.t 3) v82 H83).bind fun H84=>(ld true 3 (o12.t 2) H84).bind fun v85=>(ld true 8 (o12.t 3) H84).bind fun v86=>Yr ([v85,v86].all notTup) <|some (.tuple ⟨[v85,v86]⟩,H84,o12.n+4)
theorem s37 (C:Zb)(L:Zc->Zc)(t:Tm)(H:Hp)(n:Nat):Zq Tryz.prog C L Tryz.f37 t H n=S37 C L t H n:=by kernel_rfl
theorem c37 (args:List Value)(H:Hp)(n:Nat):Call Tryz.prog 37 args H n=S37 (Call Tryz.prog) Zm (Zp args) H n:=(Zg Tryz.func37 args H n).trans (s37 ..)
noncomputable def S38L0 (C:Zb)(L:Zc->Zc):Zc:=fun t H n=>(Zx false (t 0)).bind fun v4=>(Zd .plain .lss (t 4) v4).bind fun v5=>let t7:Tm:=put (put (put (put (put t 8 (t 4)) 9 (t 0)) 10 v4) 11 v5) 12 v5
 (gsel v5 true
 ((Zd .plain .lss (t7 4) (.int .i64 4000)).bind fun v8=>some (put (put t7 13 (t7 4)) 14 v8,H,n+8))
 (some (put (put t7 13 (.tuple #[])) 14 (.tuple #[]),H,n+8))
 ).bind fun(q6:R3)=>(Zl (q6.1 12) (q6.1 14) (.bool false)).bind fun v9=>csel v9
 ((Zd .plain .mul (q6.1 3) (.int .i64 131)).bind fun v10=>(Zo 1 (q6.1 0) (q6.1 4)).bind fun v11=>(ld false 1 v11 q6.2.1).bind fun v12=>(conv (.toInt .i64) (q6.2.2+6) v12 q6.2.1).bind fun p13=>(Zd .plain .add v10 p13.1).bind fun v14=>(Zd .plain .add v14 (.int .i64 7)).bind fun v15=>(Zd .plain .and v15 (.int .i64 1073741823)).bind fun v16=>(Zd .plain .add (q6.1 4) (.int .i64 1)).bind fun v17=>some ⟨.normal,put (put (put (put (put (put (put (put (put (put (put (put (put (put (put q6.1 15 v9) 18 (q6.1 3)) 19 v10) 20 (q6.1 0)) 21 (q6.1 4)) 22 v11) 23 v12) 24 p13.1) 25 v14) 26 v15) 27 v16) 3 v16) 16 (q6.1 4)) 17 v17) 4 v17,p13.2,q6.2.2+14⟩)
 (some ⟨(.exit 0),put q6.1 15 v9,q6.2.1,q6.2.2⟩)
noncomputable def S38 (C:Zb)(L:Zc->Zc)(t:Tm)(H:Hp)(n:Nat):Option (Value × Hp × Nat) :=
 (Zx false (t 0)).bind fun v1=>(Zd .plain .add (.int .i64 17000) v1).bind fun v2=>(L (S38L0 C L) (put (put (put (put (put (put t 2 (.pointer none)) 5 (t 0)) 6 v1) 7 v2) 3 v2) 4 (.int .i64 0)) H (n+6)).bind fun(o3:Out)=>(Xf [nilS,.int .i64 0,.int .i64 0] [(0,1,o3.t 0),(2,1,o3.t 3)]).bind fun v18=>(Zs v18).bind fun c20=>let H19:=o3.H.set (o3.n+3) (some (.row c20 0 true))
 some (ptr (o3.n+3) 0,H19,o3.n+5)
theorem s38 (C:Zb)(L:Zc->Zc)(t:Tm)(H:Hp)(n:Nat):Zq Tryz.prog C L Tryz.f38 t H n=S38 C L t H n:=by kernel_rfl
theorem c38 (args:List Value)(H:Hp)(n:Nat):Call Tryz.prog 38 args H n=S38 (Call Tryz.prog) Zm (Zp args) H n:=(Zg Tryz.func38 args H n).trans (s38 ..)
noncomputable def S39L1 (C:Zb)(L:Zc->Zc):Zc:=fun t H n=>(Zd .plain .lss (t 36) (t 35)).bind fun v35=>csel v35
 ((Zo 3 (t 34) (t 36)).bind fun v36=>(ld true 3 v36 H).bind fun v37=>let H38:=H.set (n+4) (some (.row [.string ⟨#[]⟩,.int .i64 0,.int .i64 0] 0 true))
 (st true 3 (ptr (n+4) 0) v37 H38).bind fun H39=>(Za 0 (ptr (n+4) 0)).bind fun v40=>(ld false 1 v40 H39).bind fun v41=>(C 75 [v41] H39 (n+35)).bind fun q42=>(un .not q42.1).bind fun v43=>let t45:Tm:=put (put (put (put (put (put (put (put (put (put (put t 37 v35) 38 (t 36)) 39 v36) 40 v37) 5 (ptr (n+4) 0)) 4 (t 36)) 41 v40) 42 v41) 43 q42.1) 44 v43) 45 v43
 (gsel v43 false
 ((ld true 3 (t45 1) q42.2.1).bind fun v46=>(Za 0 (ptr (n+4) 0)).bind fun v47=>(ld false 1 v47 q42.2.1).bind fun v48=>(C 76 [v46,v48] q42.2.1 (q42.2.2)).bind fun q49=>(Zd .plain .neq q49.1 (t 36)).bind fun v50=>some (put (put (put (put (put (put t45 46 v46) 47 v47) 48 v48) 49 q49.1) 50 (t 36)) 51 v50,q49.2.1,q49.2.2))
 (some (put (put (put (put (put (put t45 46 (.tuple #[])) 47 (.tuple #[])) 48 (.tuple #[])) 49 (.tuple #[])) 50 (.tuple #[])) 51 (.tuple #[]),q42.2.1,q42.2.2))
 ).bind fun(q44:R3)=>(Zl (q44.1 45) (.bool true) (q44.1 51)).bind fun v51=>let t53:Tm:=put (put q44.1 52 v51) 53 v51
 (gsel v51 false
 ((Za 1 (t53 5)).bind fun v54=>(ld false 1 v54 q44.2.1).bind fun v55=>(Za 1 (t53 1)).bind fun v56=>(ld false 1 v56 q44.2.1).bind fun v57=>(Zx false v57).bind fun v58=>(Zd .plain .sub v58 (.int .i64 1)).bind fun v59=>(C 43 [v55,.int .i64 0,v59] q44.2.1 (q44.2.2)).bind fun q60=>(un .not q60.1).bind fun v61=>some (put (put (put (put (put (put (put (put t53 54 v54) 55 v55) 56 v56) 57 v57) 58 v58) 59 v59) 60 q60.1) 61 v61,q60.2.1,q60.2.2))
 (some (put (put (put (put (put (put (put (put t53 54 (.tuple #[])) 55 (.tuple #[])) 56 (.tuple #[])) 57 (.tuple #[])) 58 (.tuple #[])) 59 (.tuple #[])) 60 (.tuple #[])) 61 (.tuple #[]),q44.2.1,q44.2.2))
 ).bind fun(q52:R3)=>(Zl (q52.1 53) (.bool true) (q52.1 61)).bind fun v62=>let t64:Tm:=put (put q52.1 62 v62) 63 v62
 (gsel v62 false
 ((Za 2 (t64 5)).bind fun v65=>(ld false 1 v65 q52.2.1).bind fun v66=>(C 43 [v66,.int .i64 0,.int .i64 4] q52.2.1 (q52.2.2)).bind fun q67=>(un .not q67.1).bind fun v68=>some (put (put (put (put t64 64 v65) 65 v66) 66 q67.1) 67 v68,q67.2.1,q67.2.2))
 (some (put (put (put (put t64 64 (.tuple #[])) 65 (.tuple #[])) 66 (.tuple #[])) 67 (.tuple #[]),q52.2.1,q52.2.2))
 ).bind fun(q63:R3)=>(Zl (q63.1 63) (.bool true) (q63.1 67)).bind fun v69=>csel v69
 (some ⟨.ret,put (put q63.1 68 v69) 2 (.bool false),q63.2.1,q63.2.2+1⟩)
 ((Zd .plain .add (q63.1 36) (.int .i64 1)).bind fun v70=>some ⟨.normal,put (put (put q63.1 68 v69) 69 v70) 36 v70,q63.2.1,q63.2.2+2⟩))
 (some ⟨(.exit 2),put t 37 v35,H,n+1⟩)
noncomputable def S39L0 (C:Zb)(L:Zc->Zc):Zc:=fun t H n=>(Zd .plain .lss (t 25) (t 24)).bind fun v25=>csel v25
 ((ld true 3 (t 1) H).bind fun v26=>(C 74 [v26,t 25] H (n+7)).bind fun q27=>(un .not q27.1).bind fun v28=>csel v28
 (some ⟨.ret,put (put (put (put (put (put (put (put t 26 v25) 27 (t 25)) 3 (t 25)) 28 v26) 29 (t 25)) 30 q27.1) 31 v28) 2 (.bool false),q27.2.1,q27.2.2+1⟩)
 ((Zd .plain .add (t 25) (.int .i64 1)).bind fun v29=>some ⟨.normal,put (put (put (put (put (put (put (put (put t 26 v25) 27 (t 25)) 3 (t 25)) 28 v26) 29 (t 25)) 30 q27.1) 31 v28) 32 v29) 25 v29,q27.2.1,q27.2.2+2⟩))
 (some ⟨(.exit 0),put t 26 v25,H,n+1⟩)
noncomputable def S39 (C:Zb)(L:Zc->Zc)(t:Tm)(H:Hp)(n:Nat):Option (Value × Hp × Nat) :=
 (Zs (t 0)).bind fun c2=>let H1:=H.set (n) (some (.row c2 0 true))
 (Za 0 (ptr (n) 0)).bind fun v3=>(ld true 1 v3 H1).bind fun v4=>(C 40 [v4] H1 (n+18)).bind fun q5=>(un .not q5.1).bind fun v6=>let t8:Tm:=put (put (put (put (put (put (put t 1 (ptr (n) 0)) 2 (.bool false)) 6 v3) 7 v4) 8 q5.1) 9 v6) 10 v6
 (gsel v6 false
 ((Za 1 (ptr (n) 0)).bind fun v9=>(ld false 1 v9 q5.2.1).bind fun v10=>(Zx false v10).bind fun v11=>(Zd .plain .gtr v11 (.int .i64 400)).bind fun v12=>some (put (put (put (put t8 11 v9) 12 v10) 13 v11) 14 v12,q5.2.1,q5.2.2))
 (some (put (put (put (put t8 11 (.tuple #[])) 12 (.tuple #[])) 13 (.tuple #[])) 14 (.tuple #[]),q5.2.1,q5.2.2))
 ).bind fun(q7:R3)=>(Zl (q7.1 10) (.bool true) (q7.1 14)).bind fun v13=>let t15:Tm:=put (put q7.1 15 v13) 16 v13
 (gsel v13 false
 ((Za 2 (t15 1)).bind fun v16=>(ld false 1 v16 q7.2.1).bind fun v17=>(Zx false v17).bind fun v18=>(Zd .plain .gtr v18 (.int .i64 20)).bind fun v19=>some (put (put (put (put t15 17 v16) 18 v17) 19 v18) 20 v19,q7.2.1,q7.2.2))
 (some (put (put (put (put t15 17 (.tuple #[])) 18 (.tuple #[])) 19 (.tuple #[])) 20 (.tuple #[]),q7.2.1,q7.2.2))
 ).bind fun(q14:R3)=>(Zl (q14.1 16) (.bool true) (q14.1 20)).bind fun v20=>csel v20
 (some (.bool false,q14.2.1,q14.2.2+1))
 ((Za 1 (q14.1 1)).bind fun v21=>(ld false 1 v21 q14.2.1).bind fun v22=>(Zx false v22).bind fun v23=>(L (S39L0 C L) (put (put (put (put (put q14.1 21 v20) 22 v21) 23 v22) 24 v23) 25 (.int .i64 0)) q14.2.1 (q14.2.2+4)).bind fun(o24:Out)=>let o30:=outOf 0 o24
 Xe o30
 ((Za 2 (o30.t 1)).bind fun v31=>(ld false 1 v31 o30.H).bind fun v32=>(Zx false v32).bind fun v33=>(L (S39L1 C L) (put (put (put (put o30.t 33 v31) 34 v32) 35 v33) 36 (.int .i64 0)) o30.H (o30.n+4)).bind fun(o34:Out)=>let o71:=outOf 2 o34
 Xe o71
 (some (.bool true,o71.H,o71.n+1))
 (Vs o71.e
 (some (o71.t 2,o71.H,o71.n))))
 (Vs o30.e
 (some (o30.t 2,o30.H,o30.n))))
theorem s39 (C:Zb)(L:Zc->Zc)(t:Tm)(H:Hp)(n:Nat):Zq Tryz.prog C L Tryz.f39 t H n=S39 C L t H n:=by kernel_rfl
theorem c39 (args:List Value)(H:Hp)(n:Nat):Call Tryz.prog 39 args H n=S39 (Call Tryz.prog) Zm (Zp args) H n:=(Zg Tryz.func39 args H n).trans (s39 ..)
noncomputable def S40L0 (C:Zb)(L:Zc->Zc):Zc:=fun t H n=>(Zd .plain .lss (t 8) (t 7)).bind fun v7=>csel v7
 ((Zo 5 (t 6) (t 8)).bind fun v8=>(ld true 5 v8 H).bind fun v9=>let H10:=H.set (n+4) (some (.row [.int .i64 0,.int .i64 0,.string ⟨#[]⟩,.int .i64 0,.int .i64 0] 0 true))
 (st true 5 (ptr (n+4) 0) v9 H10).bind fun H11=>(ld true 5 (ptr (n+4) 0) H11).bind fun v12=>(C 77 [v12,t 8] H11 (n+11)).bind fun q13=>(un .not q13.1).bind fun v14=>csel v14
 (some ⟨.ret,put (put (put (put (put (put (put (put (put (put (put t 9 v7) 10 (t 8)) 11 v8) 12 v9) 4 (ptr (n+4) 0)) 3 (t 8)) 13 v12) 14 (t 8)) 15 q13.1) 16 v14) 2 (.bool false),q13.2.1,q13.2.2+1⟩)
 ((Zd .plain .add (t 8) (.int .i64 1)).bind fun v15=>some ⟨.normal,put (put (put (put (put (put (put (put (put (put (put (put t 9 v7) 10 (t 8)) 11 v8) 12 v9) 4 (ptr (n+4) 0)) 3 (t 8)) 13 v12) 14 (t 8)) 15 q13.1) 16 v14) 17 v15) 8 v15,q13.2.1,q13.2.2+2⟩))
 (some ⟨(.exit 0),put t 9 v7,H,n+1⟩)
noncomputable def S40 (C:Zb)(L:Zc->Zc)(t:Tm)(H:Hp)(n:Nat):Option (Value × Hp × Nat) :=
 (Zs (t 0)).bind fun c2=>let H1:=H.set (n) (some (.row c2 0 true))
 (Za 0 (ptr (n) 0)).bind fun v3=>(ld false 1 v3 H1).bind fun v4=>(Zx false v4).bind fun v5=>(L (S40L0 C L) (put (put (put (put (put (put t 1 (ptr (n) 0)) 2 (.bool false)) 5 v3) 6 v4) 7 v5) 8 (.int .i64 0)) H1 (n+6)).bind fun(o6:Out)=>let o16:=outOf 0 o6
 Xe o16
 ((Za 0 (o16.t 1)).bind fun v17=>(ld false 1 v17 o16.H).bind fun v18=>(Zx false v18).bind fun v19=>(Zd .plain .leq v19 (.int .i64 3000)).bind fun v20=>some (v20,o16.H,o16.n+5))
 (Vs o16.e
 (some (o16.t 2,o16.H,o16.n)))
theorem s40 (C:Zb)(L:Zc->Zc)(t:Tm)(H:Hp)(n:Nat):Zq Tryz.prog C L Tryz.f40 t H n=S40 C L t H n:=by kernel_rfl
theorem c40 (args:List Value)(H:Hp)(n:Nat):Call Tryz.prog 40 args H n=S40 (Call Tryz.prog) Zm (Zp args) H n:=(Zg Tryz.func40 args H n).trans (s40 ..)
noncomputable def S41 (C:Zb)(L:Zc->Zc)(t:Tm)(H:Hp)(n:Nat):Option (Value × Hp × Nat) :=
 (Zs (t 0)).bind fun c2=>let H1:=H.set (n) (some (.row c2 0 true))
 (Za 0 (ptr (n) 0)).bind fun v3=>(ld false 1 v3 H1).bind fun v4=>(Zx false v4).bind fun v5=>(Zd .plain .sub v5 (.int .i64 1)).bind fun v6=>(C 43 [t 1,.int .i64 0,v6] H1 (n+9)).bind fun q7=>some (q7.1,q7.2.1,q7.2.2)
theorem s41 (C:Zb)(L:Zc->Zc)(t:Tm)(H:Hp)(n:Nat):Zq Tryz.prog C L Tryz.f41 t H n=S41 C L t H n:=by kernel_rfl
theorem c41 (args:List Value)(H:Hp)(n:Nat):Call Tryz.prog 41 args H n=S41 (Call Tryz.prog) Zm (Zp args) H n:=(Zg Tryz.func41 args H n).trans (s41 ..)
noncomputable def S42 (C:Zb)(L:Zc->Zc)(t:Tm)(H:Hp)(n:Nat):Option (Value × Hp × Nat) :=
 (Zs (t 0)).bind fun c2=>let H1:=H.set (n) (some (.row c2 0 true))
 (Za 1 (ptr (n) 0)).bind fun v3=>(ld false 1 v3 H1).bind fun v4=>(Zx false v4).bind fun v5=>(Zd .plain .sub v5 (.int .i64 1)).bind fun v6=>(C 43 [t 1,.int .i64 0,v6] H1 (n+9)).bind fun q7=>some (q7.1,q7.2.1,q7.2.2)
theorem s42 (C:Zb)(L:Zc->Zc)(t:Tm)(H:Hp)(n:Nat):Zq Tryz.prog C L Tryz.f42 t H n=S42 C L t H n:=by kernel_rfl
theorem c42 (args:List Value)(H:Hp)(n:Nat):Call Tryz.prog 42 args H n=S42 (Call Tryz.prog) Zm (Zp args) H n:=(Zg Tryz.func42 args H n).trans (s42 ..)
noncomputable def S43 (C:Zb)(L:Zc->Zc)(t:Tm)(H:Hp)(n:Nat):Option (Value × Hp × Nat) :=
 (Zd .plain .geq (t 0) (t 1)).bind fun v1=>let t3:Tm:=put (put (put (put (put t 6 (.bool false)) 7 (t 0)) 8 (t 1)) 9 v1) 10 v1
 (gsel v1 true
 ((Zd .plain .leq (t3 0) (t3 2)).bind fun v4=>some (put (put (put t3 11 (t3 0)) 12 (t3 2)) 13 v4,H,n+10))
 (some (put (put (put t3 11 (.tuple #[])) 12 (.tuple #[])) 13 (.tuple #[]),H,n+10))
 ).bind fun(q2:R3)=>(Zl (q2.1 10) (q2.1 13) (.bool false)).bind fun v5=>some (v5,q2.2.1,q2.2.2)
theorem s43 (C:Zb)(L:Zc->Zc)(t:Tm)(H:Hp)(n:Nat):Zq Tryz.prog C L Tryz.f43 t H n=S43 C L t H n:=by kernel_rfl
theorem c43 (args:List Value)(H:Hp)(n:Nat):Call Tryz.prog 43 args H n=S43 (Call Tryz.prog) Zm (Zp args) H n:=(Zg Tryz.func43 args H n).trans (s43 ..)
noncomputable def S44L1 (C:Zb)(L:Zc->Zc):Zc:=fun t H n=>(Za 2 (t 1)).bind fun v32=>(ld false 1 v32 H).bind fun v33=>(Zx false v33).bind fun v34=>(Zd .plain .lss (t 4) v34).bind fun v35=>csel v35
 ((Za 2 (t 1)).bind fun v36=>(ld false 1 v36 H).bind fun v37=>(Zo 3 v37 (t 4)).bind fun v38=>(ld true 3 v38 H).bind fun v39=>let H40:=H.set (n+10) (some (.row [.string ⟨#[]⟩,.int .i64 0,.int .i64 0] 0 true))
 (st true 3 (ptr (n+10) 0) v39 H40).bind fun H41=>(Za 0 (ptr (n+10) 0)).bind fun v42=>(ld false 1 v42 H41).bind fun v43=>(C 79 [v43] H41 (n+40)).bind fun q44=>(un .not q44.1).bind fun v45=>let t47:Tm:=put (put (put (put (put (put (put (put (put (put (put (put (put (put (put (put t 33 (t 4)) 34 v32) 35 v33) 36 v34) 37 v35) 40 v36) 41 v37) 42 (t 4)) 43 v38) 44 v39) 5 (ptr (n+10) 0)) 45 v42) 46 v43) 47 q44.1) 48 v45) 49 v45
 (gsel v45 false
 ((ld true 3 (t47 1) q44.2.1).bind fun v48=>(Za 0 (ptr (n+10) 0)).bind fun v49=>(ld false 1 v49 q44.2.1).bind fun v50=>(C 80 [v48,v50] q44.2.1 (q44.2.2)).bind fun q51=>(Zd .plain .neq q51.1 (t47 4)).bind fun v52=>some (put (put (put (put (put (put t47 50 v48) 51 v49) 52 v50) 53 q51.1) 54 (t47 4)) 55 v52,q51.2.1,q51.2.2))
 (some (put (put (put (put (put (put t47 50 (.tuple #[])) 51 (.tuple #[])) 52 (.tuple #[])) 53 (.tuple #[])) 54 (.tuple #[])) 55 (.tuple #[]),q44.2.1,q44.2.2))
 ).bind fun(q46:R3)=>(Zl (q46.1 49) (.bool true) (q46.1 55)).bind fun v53=>let t55:Tm:=put (put q46.1 56 v53) 57 v53
 (gsel v53 false
 ((Za 1 (t55 5)).bind fun v56=>(ld false 1 v56 q46.2.1).bind fun v57=>(Za 1 (t55 1)).bind fun v58=>(ld false 1 v58 q46.2.1).bind fun v59=>(Zx false v59).bind fun v60=>(Zd .plain .sub v60 (.int .i64 1)).bind fun v61=>(C 47 [v57,.int .i64 0,v61] q46.2.1 (q46.2.2)).bind fun q62=>(un .not q62.1).bind fun v63=>some (put (put (put (put (put (put (put (put t55 58 v56) 59 v57) 60 v58) 61 v59) 62 v60) 63 v61) 64 q62.1) 65 v63,q62.2.1,q62.2.2))
 (some (put (put (put (put (put (put (put (put t55 58 (.tuple #[])) 59 (.tuple #[])) 60 (.tuple #[])) 61 (.tuple #[])) 62 (.tuple #[])) 63 (.tuple #[])) 64 (.tuple #[])) 65 (.tuple #[]),q46.2.1,q46.2.2))
 ).bind fun(q54:R3)=>(Zl (q54.1 57) (.bool true) (q54.1 65)).bind fun v64=>let t66:Tm:=put (put q54.1 66 v64) 67 v64
 (gsel v64 false
 ((Za 2 (t66 5)).bind fun v67=>(ld false 1 v67 q54.2.1).bind fun v68=>(C 47 [v68,.int .i64 0,.int .i64 4] q54.2.1 (q54.2.2)).bind fun q69=>(un .not q69.1).bind fun v70=>some (put (put (put (put t66 68 v67) 69 v68) 70 q69.1) 71 v70,q69.2.1,q69.2.2))
 (some (put (put (put (put t66 68 (.tuple #[])) 69 (.tuple #[])) 70 (.tuple #[])) 71 (.tuple #[]),q54.2.1,q54.2.2))
 ).bind fun(q65:R3)=>(Zl (q65.1 67) (.bool true) (q65.1 71)).bind fun v71=>csel v71
 (some ⟨.ret,put (put q65.1 72 v71) 2 (.bool false),q65.2.1,q65.2.2+1⟩)
 ((Zd .plain .add (q65.1 4) (.int .i64 1)).bind fun v72=>some ⟨.normal,put (put (put (put q65.1 72 v71) 38 (q65.1 4)) 39 v72) 4 v72,q65.2.1,q65.2.2+3⟩))
 (some ⟨(.exit 2),put (put (put (put (put t 33 (t 4)) 34 v32) 35 v33) 36 v34) 37 v35,H,n+5⟩)
noncomputable def S44L0 (C:Zb)(L:Zc->Zc):Zc:=fun t H n=>(Za 1 (t 1)).bind fun v22=>(ld false 1 v22 H).bind fun v23=>(Zx false v23).bind fun v24=>(Zd .plain .lss (t 3) v24).bind fun v25=>csel v25
 ((ld true 3 (t 1) H).bind fun v26=>(C 78 [v26,t 3] H (n+9)).bind fun q27=>(un .not q27.1).bind fun v28=>csel v28
 (some ⟨.ret,put (put (put (put (put (put (put (put (put (put t 22 (t 3)) 23 v22) 24 v23) 25 v24) 26 v25) 29 v26) 30 (t 3)) 31 q27.1) 32 v28) 2 (.bool false),q27.2.1,q27.2.2+1⟩)
 ((Zd .plain .add (t 3) (.int .i64 1)).bind fun v29=>some ⟨.normal,put (put (put (put (put (put (put (put (put (put (put (put t 22 (t 3)) 23 v22) 24 v23) 25 v24) 26 v25) 29 v26) 30 (t 3)) 31 q27.1) 32 v28) 27 (t 3)) 28 v29) 3 v29,q27.2.1,q27.2.2+3⟩))
 (some ⟨(.exit 0),put (put (put (put (put t 22 (t 3)) 23 v22) 24 v23) 25 v24) 26 v25,H,n+5⟩)
noncomputable def S44 (C:Zb)(L:Zc->Zc)(t:Tm)(H:Hp)(n:Nat):Option (Value × Hp × Nat) :=
 (Zs (t 0)).bind fun c2=>let H1:=H.set (n) (some (.row c2 0 true))
 (Za 0 (ptr (n) 0)).bind fun v3=>(ld true 1 v3 H1).bind fun v4=>(C 45 [v4] H1 (n+18)).bind fun q5=>(un .not q5.1).bind fun v6=>let t8:Tm:=put (put (put (put (put (put (put t 1 (ptr (n) 0)) 2 (.bool false)) 6 v3) 7 v4) 8 q5.1) 9 v6) 10 v6
 (gsel v6 false
 ((Za 1 (ptr (n) 0)).bind fun v9=>(ld false 1 v9 q5.2.1).bind fun v10=>(Zx false v10).bind fun v11=>(Zd .plain .gtr v11 (.int .i64 400)).bind fun v12=>some (put (put (put (put t8 11 v9) 12 v10) 13 v11) 14 v12,q5.2.1,q5.2.2))
 (some (put (put (put (put t8 11 (.tuple #[])) 12 (.tuple #[])) 13 (.tuple #[])) 14 (.tuple #[]),q5.2.1,q5.2.2))
 ).bind fun(q7:R3)=>(Zl (q7.1 10) (.bool true) (q7.1 14)).bind fun v13=>let t15:Tm:=put (put q7.1 15 v13) 16 v13
 (gsel v13 false
 ((Za 2 (t15 1)).bind fun v16=>(ld false 1 v16 q7.2.1).bind fun v17=>(Zx false v17).bind fun v18=>(Zd .plain .gtr v18 (.int .i64 20)).bind fun v19=>some (put (put (put (put t15 17 v16) 18 v17) 19 v18) 20 v19,q7.2.1,q7.2.2))
 (some (put (put (put (put t15 17 (.tuple #[])) 18 (.tuple #[])) 19 (.tuple #[])) 20 (.tuple #[]),q7.2.1,q7.2.2))
 ).bind fun(q14:R3)=>(Zl (q14.1 16) (.bool true) (q14.1 20)).bind fun v20=>csel v20
 (some (.bool false,q14.2.1,q14.2.2+1))
 ((L (S44L0 C L) (put (put q14.1 21 v20) 3 (.int .i64 0)) q14.2.1 (q14.2.2+1)).bind fun(o21:Out)=>let o30:=outOf 0 o21
 Xe o30
 ((L (S44L1 C L) (put o30.t 4 (.int .i64 0)) o30.H (o30.n+1)).bind fun(o31:Out)=>let o73:=outOf 2 o31
 Xe o73
 (some (.bool true,o73.H,o73.n+1))
 (Vs o73.e
 (some (o73.t 2,o73.H,o73.n))))
 (Vs o30.e
 (some (o30.t 2,o30.H,o30.n))))
theorem s44 (C:Zb)(L:Zc->Zc)(t:Tm)(H:Hp)(n:Nat):Zq Tryz.prog C L Tryz.f44 t H n=S44 C L t H n:=by kernel_rfl
theorem c44 (args:List Value)(H:Hp)(n:Nat):Call Tryz.prog 44 args H n=S44 (Call Tryz.prog) Zm (Zp args) H n:=(Zg Tryz.func44 args H n).trans (s44 ..)
noncomputable def S45L0 (C:Zb)(L:Zc->Zc):Zc:=fun t H n=>(Za 0 (t 1)).bind fun v4=>(ld false 1 v4 H).bind fun v5=>(Zx false v5).bind fun v6=>(Zd .plain .lss (t 3) v6).bind fun v7=>csel v7
 ((Za 0 (t 1)).bind fun v8=>(ld false 1 v8 H).bind fun v9=>(Zo 5 v9 (t 3)).bind fun v10=>(ld true 5 v10 H).bind fun v11=>(C 81 [v11,t 3] H (n+13)).bind fun q12=>(un .not q12.1).bind fun v13=>csel v13
 (some ⟨.ret,put (put (put (put (put (put (put (put (put (put (put (put (put (put t 4 (t 3)) 5 v4) 6 v5) 7 v6) 8 v7) 11 v8) 12 v9) 13 (t 3)) 14 v10) 15 v11) 16 (t 3)) 17 q12.1) 18 v13) 2 (.bool false),q12.2.1,q12.2.2+1⟩)
 ((Zd .plain .add (t 3) (.int .i64 1)).bind fun v14=>some ⟨.normal,put (put (put (put (put (put (put (put (put (put (put (put (put (put (put (put t 4 (t 3)) 5 v4) 6 v5) 7 v6) 8 v7) 11 v8) 12 v9) 13 (t 3)) 14 v10) 15 v11) 16 (t 3)) 17 q12.1) 18 v13) 9 (t 3)) 10 v14) 3 v14,q12.2.1,q12.2.2+3⟩))
 (some ⟨(.exit 0),put (put (put (put (put t 4 (t 3)) 5 v4) 6 v5) 7 v6) 8 v7,H,n+5⟩)
noncomputable def S45 (C:Zb)(L:Zc->Zc)(t:Tm)(H:Hp)(n:Nat):Option (Value × Hp × Nat) :=
 (Zs (t 0)).bind fun c2=>let H1:=H.set (n) (some (.row c2 0 true))
 (L (S45L0 C L) (put (put (put t 1 (ptr (n) 0)) 2 (.bool false)) 3 (.int .i64 0)) H1 (n+3)).bind fun(o3:Out)=>let o15:=outOf 0 o3
 Xe o15
 ((Za 0 (o15.t 1)).bind fun v16=>(ld false 1 v16 o15.H).bind fun v17=>(Zx false v17).bind fun v18=>(Zd .plain .leq v18 (.int .i64 3000)).bind fun v19=>some (v19,o15.H,o15.n+5))
 (Vs o15.e
 (some (o15.t 2,o15.H,o15.n)))
theorem s45 (C:Zb)(L:Zc->Zc)(t:Tm)(H:Hp)(n:Nat):Zq Tryz.prog C L Tryz.f45 t H n=S45 C L t H n:=by kernel_rfl
theorem c45 (args:List Value)(H:Hp)(n:Nat):Call Tryz.prog 45 args H n=S45 (Call Tryz.prog) Zm (Zp args) H n:=(Zg Tryz.func45 args H n).trans (s45 ..)
noncomputable def S46 (C:Zb)(L:Zc->Zc)(t:Tm)(H:Hp)(n:Nat):Option (Value × Hp × Nat) :=
 (Zs (t 0)).bind fun c2=>let H1:=H.set (n) (some (.row c2 0 true))
 (Za 0 (ptr (n) 0)).bind fun v3=>(ld false 1 v3 H1).bind fun v4=>(Zx false v4).bind fun v5=>(Zd .plain .sub v5 (.int .i64 1)).bind fun v6=>(C 47 [t 1,.int .i64 0,v6] H1 (n+9)).bind fun q7=>some (q7.1,q7.2.1,q7.2.2)
theorem s46 (C:Zb)(L:Zc->Zc)(t:Tm)(H:Hp)(n:Nat):Zq Tryz.prog C L Tryz.f46 t H n=S46 C L t H n:=by kernel_rfl
theorem c46 (args:List Value)(H:Hp)(n:Nat):Call Tryz.prog 46 args H n=S46 (Call Tryz.prog) Zm (Zp args) H n:=(Zg Tryz.func46 args H n).trans (s46 ..)
noncomputable def S47 (C:Zb)(L:Zc->Zc)(t:Tm)(H:Hp)(n:Nat):Option (Value × Hp × Nat) :=
 (Zd .plain .geq (t 0) (t 1)).bind fun v1=>let t3:Tm:=put (put (put (put (put t 6 (.bool false)) 7 (t 0)) 8 (t 1)) 9 v1) 10 v1
 (gsel v1 true
 ((Zd .plain .leq (t3 0) (t3 2)).bind fun v4=>some (put (put (put t3 11 (t3 0)) 12 (t3 2)) 13 v4,H,n+10))
 (some (put (put (put t3 11 (.tuple #[])) 12 (.tuple #[])) 13 (.tuple #[]),H,n+10))
 ).bind fun(q2:R3)=>(Zl (q2.1 10) (q2.1 13) (.bool false)).bind fun v5=>some (v5,q2.2.1,q2.2.2)
theorem s47 (C:Zb)(L:Zc->Zc)(t:Tm)(H:Hp)(n:Nat):Zq Tryz.prog C L Tryz.f47 t H n=S47 C L t H n:=by kernel_rfl
theorem c47 (args:List Value)(H:Hp)(n:Nat):Call Tryz.prog 47 args H n=S47 (Call Tryz.prog) Zm (Zp args) H n:=(Zg Tryz.func47 args H n).trans (s47 ..)
noncomputable def S51 (C:Zb)(L:Zc->Zc)(t:Tm)(H:Hp)(n:Nat):Option (Value × Hp × Nat) :=
 (Zs (t 0)).bind fun c2=>let H1:=H.set (n) (some (.row c2 0 true))
 let H3:=H1.set (n+1) (some (.row [nilS] 0 true))
 (Xx (n+2) 5 0 [.int .i64 0,.int .i64 0,.string ⟨#[]⟩,.int .i64 0,.int .i64 0] [] H3).bind fun p4=>(Za 0 (ptr (n) 0)).bind fun v5=>(ld false 1 v5 p4.2).bind fun v6=>(app (n+5) 5 48 p4.1 v6 p4.2).bind fun p7=>(Xf [nilS] [(0,1,p7.1)]).bind fun v8=>(st true 1 (ptr (n+1) 0) v8 p7.2).bind fun H9=>(ld true 1 (ptr (n+1) 0) H9).bind fun v10=>some (v10,H9,n+8)
theorem s51 (C:Zb)(L:Zc->Zc)(t:Tm)(H:Hp)(n:Nat):Zq Tryz.prog C L Tryz.f51 t H n=S51 C L t H n:=by kernel_rfl
theorem c51 (args:List Value)(H:Hp)(n:Nat):Call Tryz.prog 51 args H n=S51 (Call Tryz.prog) Zm (Zp args) H n:=(Zg Tryz.func51 args H n).trans (s51 ..)
noncomputable def S52 (C:Zb)(L:Zc->Zc)(t:Tm)(H:Hp)(n:Nat):Option (Value × Hp × Nat) :=
 (Zs (t 0)).bind fun c2=>let H1:=H.set (n) (some (.row c2 0 true))
 (Zs (t 2)).bind fun c4=>let H3:=H1.set (n+1) (some (.row c4 0 true))
 (Zh (t 1)).bind fun v5=>(Za 1 v5).bind fun v6=>(ld false 1 v6 H3).bind fun v7=>(Zd .plain .add v7 (.int .i64 1)).bind fun v8=>(Za 0 (ptr (n+1) 0)).bind fun v9=>(ld false 1 v9 H3).bind fun v10=>(Zd .plain .eql v10 (.int .i64 1)).bind fun v11=>let t13:Tm:=put (put (put (put (put (put (put (put (put (put (put (put (put t 3 (ptr (n) 0)) 5 (ptr (n+1) 0)) 6 (.int .i64 0)) 18 (t 1)) 19 v5) 20 v6) 21 v7) 22 v8) 7 v8) 23 v9) 24 v10) 26 v11) 25 v11
 (csel v11
 ((Zh (t13 1)).bind fun v14=>(Za 0 v14).bind fun v15=>(Za 0 (ptr (n) 0)).bind fun v16=>(ld true 1 v16 H3).bind fun v17=>(Za 1 (ptr (n+1) 0)).bind fun v18=>(ld false 1 v18 H3).bind fun v19=>(C 84 [v15,v17,v19] H3 (n+23)).bind fun q20=>(C 83 [t13 1,q20.1] q20.2.1 (q20.2.2)).bind fun q21=>some ⟨.normal,put (put (put (put (put (put (put (put (put (put t13 27 (t13 1)) 28 (t13 1)) 29 v14) 30 v15) 31 v16) 32 v17) 33 v18) 34 v19) 35 q20.1) 36 q21.1,q21.2.1,q21.2.2⟩)
 ((Zd .plain .eql v10 (.int .i64 2)).bind fun v22=>let t24:Tm:=put (put t13 38 v22) 37 v22
 (csel v22
 ((Zh (t24 1)).bind fun v25=>(Za 0 v25).bind fun v26=>(ld true 1 v26 H3).bind fun v27=>(Zh (t24 1)).bind fun v28=>(Za 3 v28).bind fun v29=>(ld false 1 v29 H3).bind fun v30=>(Za 1 (ptr (n+1) 0)).bind fun v31=>(ld false 1 v31 H3).bind fun v32=>(C 85 [v27,v30,v32] H3 (n+31)).bind fun q33=>(ext 0 q33.1).bind fun v34=>(ext 1 q33.1).bind fun v35=>(un .not v35).bind fun v36=>csel v36
 (some ⟨.ret,put (put (put (put (put (put (put (put (put (put (put (put (put (put (put (put (put (put (put t24 40 (t24 1)) 41 v25) 42 v26) 43 v27) 44 (t24 1)) 45 v28) 46 v29) 47 v30) 48 v31) 49 v32) 50 q33.1) 39 q33.1) 51 v34) 52 v35) 8 v34) 9 v35) 53 v35) 54 v36) 6 (.int .i64 7),q33.2.1,q33.2.2+3⟩)
 ((Zh (t24 1)).bind fun v37=>(Za 0 v37).bind fun v38=>(ld true 1 v38 q33.2.1).bind fun v39=>(Za 2 (ptr (n+1) 0)).bind fun v40=>(ld false 1 v40 q33.2.1).bind fun v41=>(C 85 [v39,v34,v41] q33.2.1 (q33.2.2+15)).bind fun q42=>(ext 0 q42.1).bind fun v43=>(ext 1 q42.1).bind fun v44=>(un .not v44).bind fun v45=>csel v45
 (some ⟨.ret,put (put (put (put (put (put (put (put (put (put (put (put (put (put (put (put (put (put (put (put (put (put (put (put (put (put (put (put (put (put (put (put (put (put t24 40 (t24 1)) 41 v25) 42 v26) 43 v27) 44 (t24 1)) 45 v28) 46 v29) 47 v30) 48 v31) 49 v32) 50 q33.1) 39 q33.1) 51 v34) 52 v35) 8 v34) 9 v35) 53 v35) 54 v36) 56 (t24 1)) 57 v37) 58 v38) 59 v39) 60 v34) 61 v40) 62 v41) 63 q42.1) 55 q42.1) 64 v43) 65 v44) 10 v43) 11 v44) 66 v44) 67 v45) 6 (.int .i64 7),q42.2.1,q42.2.2+3⟩)
 ((C 83 [t24 1,v43] q42.2.1 (q42.2.2+5)).bind fun q46=>some ⟨.normal,put (put (put (put (put (put (put (put (put (put (put (put (put (put (put (put (put (put (put (put (put (put (put (put (put (put (put (put (put (put (put (put (put (put (put (put t24 40 (t24 1)) 41 v25) 42 v26) 43 v27) 44 (t24 1)) 45 v28) 46 v29) 47 v30) 48 v31) 49 v32) 50 q33.1) 39 q33.1) 51 v34) 52 v35) 8 v34) 9 v35) 53 v35) 54 v36) 56 (t24 1)) 57 v37) 58 v38) 59 v39) 60 v34) 61 v40) 62 v41) 63 q42.1) 55 q42.1) 64 v43) 65 v44) 10 v43) 11 v44) 66 v44) 67 v45) 68 (t24 1)) 69 v43) 70 q46.1,q46.2.1,q46.2.2⟩)))
 ((Zd .plain .eql v10 (.int .i64 3)).bind fun v47=>let t49:Tm:=put (put t24 72 v47) 71 v47
 (csel v47
 ((ld true 3 (ptr (n) 0) H3).bind fun v50=>(Za 3 (ptr (n+1) 0)).bind fun v51=>(ld false 1 v51 H3).bind fun v52=>(C 86 [v50,t49 1,v52] H3 (n+23)).bind fun q53=>(Zd .plain .neq q53.1 (.int .i64 0)).bind fun v54=>csel v54
 (some ⟨.ret,put (put (put (put (put (put (put (put (put (put t49 73 v50) 74 (t49 1)) 75 v51) 76 v52) 77 q53.1) 12 q53.1) 78 q53.1) 79 v54) 80 q53.1) 6 q53.1,q53.2.1,q53.2.2+4⟩)
 (some ⟨.normal,put (put (put (put (put (put (put (put t49 73 v50) 74 (t49 1)) 75 v51) 76 v52) 77 q53.1) 12 q53.1) 78 q53.1) 79 v54,q53.2.1,q53.2.2+2⟩))
 ((Zd .plain .eql v10 (.int .i64 4)).bind fun v55=>let t57:Tm:=put (put t49 82 v55) 81 v55
 (csel v55
 ((C 87 [t57 1] H3 (n+26)).bind fun q58=>(ext 0 q58.1).bind fun v59=>(ext 1 q58.1).bind fun v60=>(un .not v60).bind fun v61=>csel v61
 (some ⟨.ret,put (put (put (put (put (put (put (put (put (put t57 84 (t57 1)) 85 q58.1) 83 q58.1) 86 v59) 87 v60) 13 v59) 14 v60) 88 v60) 89 v61) 6 (.int .i64 7),q58.2.1,q58.2.2+3⟩)
 ((Zh (t57 1)).bind fun v62=>(Za 0 v62).bind fun v63=>(Za 0 v63).bind fun v64=>(ld false 1 v64 q58.2.1).bind fun v65=>(Zo 5 v65 v59).bind fun v66=>(ld true 5 v66 q58.2.1).bind fun v67=>let H68:=q58.2.1.set (q58.2.2+10) (some (.row [.int .i64 0,.int .i64 0,.string ⟨#[]⟩,.int .i64 0,.int .i64 0] 0 true))
 (st true 5 (ptr (q58.2.2+10) 0) v67 H68).bind fun H69=>(Za 0 (ptr (q58.2.2+10) 0)).bind fun v70=>(ld false 1 v70 H69).bind fun v71=>(Zd .plain .eql v71 (.int .i64 2)).bind fun v72=>let t74:Tm:=put (put (put (put (put (put (put (put (put (put (put (put (put (put (put (put (put (put (put (put (put (put t57 84 (t57 1)) 85 q58.1) 83 q58.1) 86 v59) 87 v60) 13 v59) 14 v60) 88 v60) 89 v61) 90 (t57 1)) 91 v62) 92 v63) 93 v64) 94 v65) 95 v59) 96 v66) 97 v67) 15 (ptr (q58.2.2+10) 0)) 98 v70) 99 v71) 100 v72) 101 v72
 (gsel v72 true
 ((Za 1 (ptr (q58.2.2+10) 0)).bind fun v75=>(ld false 1 v75 H69).bind fun v76=>(Zd .plain .eql v76 (.int .i64 0)).bind fun v77=>some (put (put (put t74 102 v75) 103 v76) 104 v77,H69,q58.2.2+20))
 (some (put (put (put t74 102 (.tuple #[])) 103 (.tuple #[])) 104 (.tuple #[]),H69,q58.2.2+20))
 ).bind fun(q73:R3)=>(Zl (q73.1 101) (q73.1 104) (.bool false)).bind fun v78=>let t80:Tm:=put q73.1 105 v78
 (csel v78
 ((Za 1 (t80 5)).bind fun v81=>(ld false 1 v81 q73.2.1).bind fun v82=>some ⟨.normal,put (put (put t80 106 v81) 107 v82) 7 v82,q73.2.1,q73.2.2+3⟩)
 (some ⟨.normal,t80,q73.2.1,q73.2.2⟩)
 ).bind fun(o79:Out)=>some ⟨.normal,o79.t,o79.H,o79.n⟩))
 ((Zd .plain .eql v10 (.int .i64 5)).bind fun v83=>let t85:Tm:=put (put t57 109 v83) 108 v83
 (csel v83
 ((Za 1 (ptr (n+1) 0)).bind fun v86=>(ld false 1 v86 H3).bind fun v87=>some ⟨.normal,put (put (put t85 110 v86) 111 v87) 7 v87,H3,n+24⟩)
 ((Zd .plain .eql v10 (.int .i64 6)).bind fun v88=>let t90:Tm:=put (put t85 113 v88) 112 v88
 (csel v88
 ((Zh (t90 1)).bind fun v91=>(Za 0 v91).bind fun v92=>(Za 1 (ptr (n+1) 0)).bind fun v93=>(ld false 1 v93 H3).bind fun v94=>(Zd .plain .mul (.int .i64 8) v94).bind fun v95=>(Za 2 (ptr (n+1) 0)).bind fun v96=>(ld false 1 v96 H3).bind fun v97=>(Zd .plain .add v95 v97).bind fun v98=>(Zh (t90 1)).bind fun v99=>(Za 3 v99).bind fun v100=>(ld false 1 v100 H3).bind fun v101=>(Xf [.int .i64 0,.int .i64 0,.string ⟨#[]⟩,.int .i64 0,.int .i64 0] [(0,1,.int .i64 6),(1,1,v98),(3,1,v101)]).bind fun v102=>(C 88 [v92,v102] H3 (n+40)).bind fun q103=>(C 83 [t90 1,q103.1] q103.2.1 (q103.2.2)).bind fun q104=>some ⟨.normal,put (put (put (put (put (put (put (put (put (put (put (put (put (put (put (put (put t90 114 (t90 1)) 115 (t90 1)) 116 v91) 117 v92) 118 v93) 119 v94) 120 v95) 121 v96) 122 v97) 123 v98) 124 (t90 1)) 125 v99) 126 v100) 127 v101) 128 v102) 129 q103.1) 130 q104.1,q104.2.1,q104.2.2⟩)
 ((Zd .plain .eql v10 (.int .i64 7)).bind fun v105=>csel v105
 ((ld true 3 (ptr (n) 0) H3).bind fun v106=>(Za 2 (ptr (n+1) 0)).bind fun v107=>(ld false 1 v107 H3).bind fun v108=>(C 89 [v106,t90 1,v108,v8] H3 (n+32)).bind fun q109=>some ⟨.ret,put (put (put (put (put (put (put (put (put t90 132 v105) 131 v105) 133 v106) 134 (t90 1)) 135 v107) 136 v108) 137 v8) 138 q109.1) 6 q109.1,q109.2.1,q109.2.2⟩)
 ((Zd .plain .eql v10 (.int .i64 8)).bind fun v110=>csel v110
 ((C 90 [t90 1] H3 (n+30)).bind fun q111=>some ⟨.ret,put (put (put (put (put (put (put t90 132 v105) 131 v105) 140 v110) 139 v110) 141 (t90 1)) 142 q111.1) 6 q111.1,q111.2.1,q111.2.2⟩)
 ((Zd .plain .eql v10 (.int .i64 9)).bind fun v112=>let t114:Tm:=put (put (put (put (put (put t90 132 v105) 131 v105) 140 v110) 139 v110) 144 v112) 143 v112
 (csel v112
 ((C 87 [t114 1] H3 (n+36)).bind fun q115=>(ext 0 q115.1).bind fun v116=>(ext 1 q115.1).bind fun v117=>(un .not v117).bind fun v118=>csel v118
 (some ⟨.ret,put (put (put (put (put (put (put (put (put (put t114 146 (t114 1)) 147 q115.1) 145 q115.1) 148 v116) 149 v117) 16 v116) 17 v117) 150 v117) 151 v118) 6 (.int .i64 7),q115.2.1,q115.2.2+3⟩)
 (some ⟨.normal,put (put (put (put (put (put (put (put (put t114 146 (t114 1)) 147 q115.1) 145 q115.1) 148 v116) 149 v117) 16 v116) 17 v117) 150 v117) 151 v118,q115.2.1,q115.2.2+2⟩))
 (some ⟨.normal,t114,H3,n+29⟩)
 ).bind fun(o113:Out)=>some o113)))
 ).bind fun(o89:Out)=>some o89)
 ).bind fun(o84:Out)=>some o84)
 ).bind fun(o56:Out)=>some o56)
 ).bind fun(o48:Out)=>some o48)
 ).bind fun(o23:Out)=>some o23)
 ).bind fun(o12:Out)=>let o119:=outOf 0 o12
 Xe o119
 ((Zh (o119.t 1)).bind fun v120=>(Za 1 v120).bind fun v121=>(st false 1 v121 (o119.t 7) o119.H).bind fun H122=>some (.int .i64 0,H122,o119.n+6))
 (Vs o119.e
 (some (o119.t 6,o119.H,o119.n)))
theorem s52 (C:Zb)(L:Zc->Zc)(t:Tm)(H:Hp)(n:Nat):Zq Tryz.prog C L Tryz.f52 t H n=S52 C L t H n:=by kernel_rfl
theorem c52 (args:List Value)(H:Hp)(n:Nat):Call Tryz.prog 52 args H n=S52 (Call Tryz.prog) Zm (Zp args) H n:=(Zg Tryz.func52 args H n).trans (s52 ..)
noncomputable def S53 (C:Zb)(L:Zc->Zc)(t:Tm)(H:Hp)(n:Nat):Option (Value × Hp × Nat) :=
 (Zs (t 0)).bind fun c2=>let H1:=H.set (n) (some (.row c2 0 true))
 let H3:=H1.set (n+1) (some (.row [nilS,.int .i64 0,.int .i64 0,.int .i64 0,.int .i64 0,.int .i64 0,.int .i64 0,.int .i64 0] 0 true))
 (ld true 8 (ptr (n) 0) H3).bind fun v4=>(C 23 [v4] H3 (n+6)).bind fun q5=>let H6:=q5.2.1.set (n+4) (some (.row [nilS,.int .i64 0,.int .i64 0,.int .i64 0,.int .i64 0,.int .i64 0,.int .i64 0,.int .i64 0] 0 true))
 (st true 8 (ptr (n+4) 0) q5.1 H6).bind fun H7=>(Za 5 (ptr (n+4) 0)).bind fun v8=>(st false 1 v8 (.int .i64 3) H7).bind fun H9=>(Za 1 (ptr (n+4) 0)).bind fun v10=>(st false 1 v10 (.int .i64 0) H9).bind fun H11=>(Za 6 (ptr (n+4) 0)).bind fun v12=>(st false 1 v12 (t 1) H11).bind fun H13=>(Za 7 (ptr (n+4) 0)).bind fun v14=>(st false 1 v14 (.int .i64 0) H13).bind fun H15=>(ld true 8 (ptr (n+4) 0) H15).bind fun v16=>(st true 8 (ptr (n+1) 0) v16 H15).bind fun H17=>(ld true 8 (ptr (n+1) 0) H17).bind fun v18=>some (v18,H17,q5.2.2+11)
theorem s53 (C:Zb)(L:Zc->Zc)(t:Tm)(H:Hp)(n:Nat):Zq Tryz.prog C L Tryz.f53 t H n=S53 C L t H n:=by kernel_rfl
theorem c53 (args:List Value)(H:Hp)(n:Nat):Call Tryz.prog 53 args H n=S53 (Call Tryz.prog) Zm (Zp args) H n:=(Zg Tryz.func53 args H n).trans (s53 ..)
noncomputable def S57 (C:Zb)(L:Zc->Zc)(t:Tm)(H:Hp)(n:Nat):Option (Value × Hp × Nat) :=
 (Zs (t 0)).bind fun c2=>let H1:=H.set (n) (some (.row c2 0 true))
 let H3:=H1.set (n+1) (some (.row [nilS] 0 true))
 (Za 0 (ptr (n) 0)).bind fun v4=>(ld false 1 v4 H3).bind fun v5=>(C 92 [v5] H3 (n+7)).bind fun q6=>(Xf [nilS] [(0,1,q6.1)]).bind fun v7=>(st true 1 (ptr (n+1) 0) v7 q6.2.1).bind fun H8=>(ld true 1 (ptr (n+1) 0) H8).bind fun v9=>some (v9,H8,q6.2.2)
theorem s57 (C:Zb)(L:Zc->Zc)(t:Tm)(H:Hp)(n:Nat):Zq Tryz.prog C L Tryz.f57 t H n=S57 C L t H n:=by kernel_rfl
theorem c57 (args:List Value)(H:Hp)(n:Nat):Call Tryz.prog 57 args H n=S57 (Call Tryz.prog) Zm (Zp args) H n:=(Zg Tryz.func57 args H n).trans (s57 ..)
noncomputable def S58L0 (C:Zb)(L:Zc->Zc):Zc:=fun t H n=>(Zd .plain .lss (t 23) (t 22)).bind fun v14=>csel v14
 ((C 93 [t 0] H (n+8)).bind fun q15=>(ext 0 q15.1).bind fun v16=>(ext 1 q15.1).bind fun v17=>(un .not v17).bind fun v18=>csel v18
 (some ⟨.ret,put (put (put (put (put (put (put (put (put (put (put t 24 v14) 26 (t 0)) 27 q15.1) 25 q15.1) 28 v16) 29 v17) 6 v16) 7 v17) 30 v17) 31 v18) 4 (.int .i64 7),q15.2.1,q15.2.2+3⟩)
 ((Xx (q15.2.2+4) 1 1 [.int .i64 0] [(0,1,v16)] q15.2.1).bind fun p19=>(app (q15.2.2+5) 1 8 (t 5) p19.1 p19.2).bind fun p20=>(Zd .plain .add (t 23) (.int .i64 1)).bind fun v21=>some ⟨.normal,put (put (put (put (put (put (put (put (put (put (put (put (put (put (put (put (put t 24 v14) 26 (t 0)) 27 q15.1) 25 q15.1) 28 v16) 29 v17) 6 v16) 7 v17) 30 v17) 31 v18) 32 (t 5)) 33 v16) 34 p19.1) 35 p20.1) 5 p20.1) 36 v21) 23 v21,p20.2,q15.2.2+9⟩))
 (some ⟨(.exit 0),put t 24 v14,H,n+1⟩)
noncomputable def S58 (C:Zb)(L:Zc->Zc)(t:Tm)(H:Hp)(n:Nat):Option (Value × Hp × Nat) :=
 (Zh (t 0)).bind fun v1=>(Za 8 v1).bind fun v2=>(ld true 3 v2 H).bind fun v3=>(Zh (t 0)).bind fun v4=>(Za 0 v4).bind fun v5=>(Za 1 v5).bind fun v6=>(ld false 1 v6 H).bind fun v7=>(Zd .plain .add v7 (.int .i64 1)).bind fun v8=>(C 42 [v3,v8] H (n+13)).bind fun q9=>(un .not q9.1).bind fun v10=>csel v10
 (some (.int .i64 7,q9.2.1,q9.2.2+1))
 ((Xx (q9.2.2) 1 0 [.int .i64 0] [] q9.2.1).bind fun p11=>(Zd .plain .add (t 1) (.int .i64 1)).bind fun v12=>(L (S58L0 C L) (put (put (put (put (put (put (put (put (put (put (put (put (put (put (put (put (put (put t 4 (.int .i64 0)) 8 (t 0)) 9 v1) 10 v2) 11 v3) 12 (t 0)) 13 v4) 14 v5) 15 v6) 16 v7) 17 v8) 18 q9.1) 19 v10) 20 p11.1) 5 p11.1) 21 (t 1)) 22 v12) 23 (.int .i64 0)) p11.2 (q9.2.2+5)).bind fun(o13:Out)=>let o22:=outOf 0 o13
 Xe o22
 ((C 94 [o22.t 5] o22.H (o22.n+2)).bind fun q23=>(Zo 1 (o22.t 5) (.int .i64 0)).bind fun v24=>(ld false 1 v24 q23.2.1).bind fun v25=>(Yt 1 (o22.t 5) (some (.int .i64 1)) none).bind fun v26=>(C 95 [o22.t 0,v25,v26] q23.2.1 (q23.2.2+8)).bind fun q27=>some (q27.1,q27.2.1,q27.2.2))
 (Vs o22.e
 (some (o22.t 4,o22.H,o22.n))))
theorem s58 (C:Zb)(L:Zc->Zc)(t:Tm)(H:Hp)(n:Nat):Zq Tryz.prog C L Tryz.f58 t H n=S58 C L t H n:=by kernel_rfl
theorem c58 (args:List Value)(H:Hp)(n:Nat):Call Tryz.prog 58 args H n=S58 (Call Tryz.prog) Zm (Zp args) H n:=(Zg Tryz.func58 args H n).trans (s58 ..)
noncomputable def S59 (C:Zb)(L:Zc->Zc)(t:Tm)(H:Hp)(n:Nat):Option (Value × Hp × Nat) :=
 (C 93 [t 0] H (n+8)).bind fun q1=>(ext 0 q1.1).bind fun v2=>(ext 1 q1.1).bind fun v3=>(un .not v3).bind fun v4=>csel v4
 (some (.int .i64 7,q1.2.1,q1.2.2+3))
 ((Zh (t 0)).bind fun v5=>(Za 0 v5).bind fun v6=>(Za 0 v6).bind fun v7=>(Za 0 v7).bind fun v8=>(ld false 1 v8 q1.2.1).bind fun v9=>(Zh (t 0)).bind fun v10=>(Za 0 v10).bind fun v11=>(Za 4 v11).bind fun v12=>(ld false 1 v12 q1.2.1).bind fun v13=>(Zo 5 v9 v13).bind fun v14=>(ld true 5 v14 q1.2.1).bind fun v15=>let H16:=q1.2.1.set (q1.2.2+15) (some (.row [.int .i64 0,.int .i64 0,.string ⟨#[]⟩,.int .i64 0,.int .i64 0] 0 true))
 (st true 5 (ptr (q1.2.2+15) 0) v15 H16).bind fun H17=>(Za 0 (ptr (q1.2.2+15) 0)).bind fun v18=>(ld false 1 v18 H17).bind fun v19=>(Zd .plain .eql v19 (.int .i64 1)).bind fun v20=>csel v20
 ((Zh (t 0)).bind fun v21=>(Za 0 v21).bind fun v22=>(Za 5 v22).bind fun v23=>(st false 1 v23 (.int .i64 2) H17).bind fun H24=>(Zh (t 0)).bind fun v25=>(Za 0 v25).bind fun v26=>(Za 7 v26).bind fun v27=>(st false 1 v27 v2 H24).bind fun H28=>(Zh (t 0)).bind fun v29=>(Za 0 v29).bind fun v30=>(Za 1 v30).bind fun v31=>(st false 1 v31 (.int .i64 0) H28).bind fun H32=>some (.int .i64 0,H32,q1.2.2+37))
 ((Za 0 (ptr (q1.2.2+15) 0)).bind fun v33=>(ld false 1 v33 H17).bind fun v34=>(Zd .plain .neq v34 (.int .i64 5)).bind fun v35=>csel v35
 (some (.int .i64 7,H17,q1.2.2+24))
 ((Zh (t 0)).bind fun v36=>(Za 0 v36).bind fun v37=>(Za 0 v37).bind fun v38=>(Za 3 (ptr (q1.2.2+15) 0)).bind fun v39=>(ld false 1 v39 H17).bind fun v40=>(C 96 [v38,v40] H17 (q1.2.2+35)).bind fun q41=>(ext 0 q41.1).bind fun v42=>(ext 1 q41.1).bind fun v43=>(un .not v43).bind fun v44=>let t46:Tm:=put (put (put (put (put (put (put (put (put (put (put (put (put (put (put (put (put (put (put (put (put (put (put (put (put (put (put (put (put (put (put (put (put (put (put (put (put (put (put (put (put (put (put (put (put t 2 (.int .i64 0)) 8 (t 0)) 9 q1.1) 7 q1.1) 10 v2) 11 v3) 3 v2) 4 v3) 12 v3) 13 v4) 14 (t 0)) 15 v5) 16 v6) 17 v7) 18 v8) 19 v9) 20 (t 0)) 21 v10) 22 v11) 23 v12) 24 v13) 25 v14) 26 v15) 5 (ptr (q1.2.2+15) 0)) 27 v18) 28 v19) 29 v20) 43 v33) 44 v34) 45 v35) 47 (t 0)) 48 v36) 49 v37) 50 v38) 51 v39) 52 v40) 53 q41.1) 46 q41.1) 54 v42) 55 v43) 6 v42) 4 v43) 56 v43) 57 v44) 58 v44
 (gsel v44 false
 ((Zx false v42).bind fun v47=>(Zd .plain .neq v47 (.int .i64 3)).bind fun v48=>some ⟨put (put (put t46 59 v42) 60 v47) 61 v48,q41.2.1,q41.2.2+42,[],[]⟩)
 (some ⟨put (put (put t46 59 (.tuple #[])) 60 (.tuple #[])) 61 (.tuple #[]),q41.2.1,q41.2.2+42,[],[]⟩)
 ).bind fun(q45:R5)=>(Zl (q45.t 58) (.bool true) (q45.t 61)).bind fun v49=>let t51:Tm:=put (put q45.t 62 v49) 63 v49
 (gsel v49 false
 ((Zh (t51 0)).bind fun v52=>(Za 0 v52).bind fun v53=>(Za 0 v53).bind fun v54=>(Za 0 v54).bind fun v55=>(ld false 1 v55 q45.H).bind fun v56=>askB 8191 false 1 v55 v56 q45.hs <|(Zo 1 (t51 6) (.int .i64 0)).bind fun v57=>(ld false 1 v57 q45.H).bind fun v58=>askB 49407 false 1 v57 v58 q45.hs <|(Zo 5 v56 v58).bind fun v59=>(Za 0 v59).bind fun v60=>(ld false 1 v60 q45.H).bind fun v61=>askB 524287 false 1 v60 v61 q45.hs <|(Zd .plain .neq v61 (.int .i64 3)).bind fun v62=>some ⟨put (put (put (put (put (put (put (put (put (put (put (put (put t51 64 (t51 0)) 65 v52) 66 v53) 67 v54) 68 v55) 69 v56) 70 (t51 6)) 71 v57) 72 v58) 73 v59) 74 v60) 75 v61) 76 v62,q45.H,q45.n,(⟨19,false,1,v60,v61⟩ :: ⟨16,false,1,v57,v58⟩ :: ⟨13,false,1,v55,v56⟩ :: q45.rs),q45.hs⟩)
 (some ⟨put (put (put (put (put (put (put (put (put (put (put (put (put t51 64 (.tuple #[])) 65 (.tuple #[])) 66 (.tuple #[])) 67 (.tuple #[])) 68 (.tuple #[])) 69 (.tuple #[])) 70 (.tuple #[])) 71 (.tuple #[])) 72 (.tuple #[])) 73 (.tuple #[])) 74 (.tuple #[])) 75 (.tuple #[])) 76 (.tuple #[]),q45.H,q45.n,q45.rs,q45.hs⟩)
 ).bind fun(q50:R5)=>(Zl (q50.t 63) (.bool true) (q50.t 76)).bind fun v63=>let t65:Tm:=put (put q50.t 77 v63) 78 v63
 (gsel v63 false
 ((Zh (t65 0)).bind fun v66=>(Za 8 v66).bind fun v67=>(ld true 3 v67 q50.H).bind fun v68=>askB 67108863 true 3 v67 v68 q50.hs <|(Zh (t65 0)).bind fun v69=>(Za 0 v69).bind fun v70=>(Za 0 v70).bind fun v71=>(Za 0 v71).bind fun v72=>(ld false 1 v72 q50.H).bind fun v73=>askB 4169138175 false 1 v72 v73 q50.hs <|(Zo 1 (t65 6) (.int .i64 0)).bind fun v74=>(ld false 1 v74 q50.H).bind fun v75=>askB 25778192383 false 1 v74 v75 q50.hs <|(Zo 5 v73 v75).bind fun v76=>(Za 1 v76).bind fun v77=>(ld false 1 v77 q50.H).bind fun v78=>askB 274752077823 false 1 v77 v78 q50.hs <|(C 42 [v68,v78] q50.H (q50.n)).bind fun q79=>asks 549755813887 q79.2.1 q50.rs <|(un .not q79.1).bind fun v80=>some ⟨put (put (put (put (put (put (put (put (put (put (put (put (put (put (put (put (put (put t65 79 (t65 0)) 80 v66) 81 v67) 82 v68) 83 (t65 0)) 84 v69) 85 v70) 86 v71) 87 v72) 88 v73) 89 (t65 6)) 90 v74) 91 v75) 92 v76) 93 v77) 94 v78) 95 q79.1) 96 v80,q79.2.1,q79.2.2,(⟨38,false,1,v77,v78⟩ :: ⟨35,false,1,v74,v75⟩ :: ⟨32,false,1,v72,v73⟩ :: ⟨26,true,3,v67,v68⟩ :: q50.rs),((39,q50.H) :: q50.hs)⟩)
 (some ⟨put (put (put (put (put (put (put (put (put (put (put (put (put (put (put (put (put (put t65 79 (.tuple #[])) 80 (.tuple #[])) 81 (.tuple #[])) 82 (.tuple #[])) 83 (.tuple #[])) 84 (.tuple #[])) 85 (.tuple #[])) 86 (.tuple #[])) 87 (.tuple #[])) 88 (.tuple #[])) 89 (.tuple #[])) 90 (.tuple #[])) 91 (.tuple #[])) 92 (.tuple #[])) 93 (.tuple #[])) 94 (.tuple #[])) 95 (.tuple #[])) 96 (.tuple #[]),q50.H,q50.n,q50.rs,q50.hs⟩)
 ).bind fun(q64:R5)=>(Zl (q64.t 78) (.bool true) (q64.t 96)).bind fun v81=>csel v81
 (some (.int .i64 7,q64.H,q64.n+1))
 ((Zh (q64.t 0)).bind fun v82=>(Za 0 v82).bind fun v83=>(Za 0 v83).bind fun v84=>(Za 0 v84).bind fun v85=>(ld false 1 v85 q64.H).bind fun v86=>(Zo 1 (q64.t 6) (.int .i64 0)).bind fun v87=>(ld false 1 v87 q64.H).bind fun v88=>(Zo 5 v86 v88).bind fun v89=>(Za 1 v89).bind fun v90=>(ld false 1 v90 q64.H).bind fun v91=>(Zo 1 (q64.t 6) (.int .i64 1)).bind fun v92=>(ld false 1 v92 q64.H).bind fun v93=>(Zo 1 (q64.t 6) (.int .i64 2)).bind fun v94=>(ld false 1 v94 q64.H).bind fun v95=>(Za 4 (q64.t 5)).bind fun v96=>(ld false 1 v96 q64.H).bind fun v97=>(Zh (q64.t 0)).bind fun v98=>(Za 0 v98).bind fun v99=>(Za 1 v99).bind fun v100=>(st false 1 v100 v91 q64.H).bind fun H101=>ask (ld false 1 v96 H101=some v97) <|(Zh (q64.t 0)).bind fun v102=>(Za 0 v102).bind fun v103=>(Za 2 v103).bind fun v104=>(st false 1 v104 v93 H101).bind fun H105=>ask (ld false 1 v96 H105=some v97) <|(Zh (q64.t 0)).bind fun v106=>(Za 0 v106).bind fun v107=>(Za 3 v107).bind fun v108=>(st false 1 v108 v95 H105).bind fun H109=>ask (ld false 1 v96 H109=some v97) <|(Zh (q64.t 0)).bind fun v110=>(Za 0 v110).bind fun v111=>(Za 4 v111).bind fun v112=>(st false 1 v112 v97 H109).bind fun H113=>(C 97 [q64.t 0,q64.t 3] H113 (q64.n+43)).bind fun q114=>some (.int .i64 0,q114.2.1,q114.2.2+1)))))
theorem s59 (C:Zb)(L:Zc->Zc)(t:Tm)(H:Hp)(n:Nat):Zq Tryz.prog C L Tryz.f59 t H n=S59 C L t H n:=by kernel_rfl
theorem c59 (args:List Value)(H:Hp)(n:Nat):Call Tryz.prog 59 args H n=S59 (Call Tryz.prog) Zm (Zp args) H n:=(Zg Tryz.func59 args H n).trans (s59 ..)
noncomputable def S60 (C:Zb)(L:Zc->Zc)(t:Tm)(H:Hp)(n:Nat):Option (Value × Hp × Nat) :=
 (Zs (t 1)).bind fun c2=>let H1:=H.set (n) (some (.row c2 0 true))
 (Zh (t 0)).bind fun v3=>(Za 0 v3).bind fun v4=>(Za 1 v4).bind fun v5=>(ld false 1 v5 H1).bind fun v6=>(Zd .plain .add v6 (.int .i64 1)).bind fun v7=>(Za 0 (ptr (n) 0)).bind fun v8=>(ld false 1 v8 H1).bind fun v9=>(Zd .plain .eql v9 (.int .i64 1)).bind fun v10=>let t12:Tm:=put (put (put (put (put (put (put (put (put (put (put (put (put (put t 3 (ptr (n) 0)) 4 (.int .i64 0)) 12 (t 0)) 13 v3) 14 v4) 15 v5) 16 v6) 17 v7) 5 v7) 6 (.int .i64 0)) 18 v8) 19 v9) 52 v10) 51 v10
 (csel v10
 ((Zh (t12 0)).bind fun v13=>(Za 0 v13).bind fun v14=>(Za 0 v14).bind fun v15=>(Zh (t12 0)).bind fun v16=>(Za 8 v16).bind fun v17=>(Za 0 v17).bind fun v18=>(ld true 1 v18 H1).bind fun v19=>(Za 1 (ptr (n) 0)).bind fun v20=>(ld false 1 v20 H1).bind fun v21=>(C 98 [v15,v19,v21] H1 (n+27)).bind fun q22=>(C 97 [t12 0,q22.1] q22.2.1 (q22.2.2+3)).bind fun q23=>some ⟨.normal,put (put (put (put (put (put (put (put (put (put (put (put (put (put (put (put t12 53 (t12 0)) 54 v13) 55 v14) 56 v15) 57 (t12 0)) 58 v16) 59 v17) 60 v18) 61 v19) 62 v20) 63 v21) 64 q22.1) 7 q22.1) 65 (t12 0)) 66 q22.1) 67 q23.1,q23.2.1,q23.2.2⟩)
 ((Zd .plain .eql v9 (.int .i64 2)).bind fun v24=>let t26:Tm:=put (put t12 69 v24) 68 v24
 (csel v24
 ((Za 1 (ptr (n) 0)).bind fun v27=>(ld false 1 v27 H1).bind fun v28=>(Za 2 (ptr (n) 0)).bind fun v29=>(ld false 1 v29 H1).bind fun v30=>(C 99 [t26 0,v28,v30] H1 (n+23)).bind fun q31=>some ⟨.normal,put (put (put (put (put (put (put t26 70 (t26 0)) 71 v27) 72 v28) 73 v29) 74 v30) 75 q31.1) 6 q31.1,q31.2.1,q31.2.2⟩)
 ((Zd .plain .eql v9 (.int .i64 3)).bind fun v32=>let t34:Tm:=put (put t26 77 v32) 76 v32
 (csel v32
 ((Za 3 (ptr (n) 0)).bind fun v35=>(ld false 1 v35 H1).bind fun v36=>(C 100 [t34 0,v36] H1 (n+23)).bind fun q37=>some ⟨.normal,put (put (put (put (put t34 78 (t34 0)) 79 v35) 80 v36) 81 q37.1) 6 q37.1,q37.2.1,q37.2.2⟩)
 ((Zd .plain .eql v9 (.int .i64 5)).bind fun v38=>let t40:Tm:=put (put t34 83 v38) 82 v38
 (csel v38
 ((Za 1 (ptr (n) 0)).bind fun v41=>(ld false 1 v41 H1).bind fun v42=>some ⟨.normal,put (put (put t40 84 v41) 85 v42) 5 v42,H1,n+23⟩)
 ((Zd .plain .eql v9 (.int .i64 6)).bind fun v43=>let t45:Tm:=put (put t40 87 v43) 86 v43
 (csel v43
 ((Zh (t45 0)).bind fun v46=>(Za 0 v46).bind fun v47=>(Za 0 v47).bind fun v48=>(Za 1 (ptr (n) 0)).bind fun v49=>(ld false 1 v49 H1).bind fun v50=>(Zd .plain .mul (.int .i64 8) v50).bind fun v51=>(Za 2 (ptr (n) 0)).bind fun v52=>(ld false 1 v52 H1).bind fun v53=>(Zd .plain .add v51 v53).bind fun v54=>(Zh (t45 0)).bind fun v55=>(Za 0 v55).bind fun v56=>(Za 3 v56).bind fun v57=>(ld false 1 v57 H1).bind fun v58=>(Xf [.int .i64 0,.int .i64 0,.string ⟨#[]⟩,.int .i64 0,.int .i64 0] [(0,1,.int .i64 6),(1,1,v54),(3,1,v58)]).bind fun v59=>(C 101 [v48,v59] H1 (n+40)).bind fun q60=>(C 97 [t45 0,q60.1] q60.2.1 (q60.2.2+3)).bind fun q61=>some ⟨.normal,put (put (put (put (put (put (put (put (put (put (put (put (put (put (put (put (put (put (put (put (put t45 88 (t45 0)) 89 v46) 90 v47) 91 v48) 92 v49) 93 v50) 94 v51) 95 v52) 96 v53) 97 v54) 98 (t45 0)) 99 v55) 100 v56) 101 v57) 102 v58) 103 v59) 104 q60.1) 8 q60.1) 105 (t45 0)) 106 q60.1) 107 q61.1,q61.2.1,q61.2.2⟩)
 ((C 93 [t45 0] H1 (n+29)).bind fun q62=>(ext 0 q62.1).bind fun v63=>(ext 1 q62.1).bind fun v64=>(un .not v64).bind fun v65=>csel v65
 (some ⟨.ret,put (put (put (put (put (put (put (put (put (put t45 21 (t45 0)) 22 q62.1) 20 q62.1) 23 v63) 24 v64) 9 v63) 10 v64) 25 v64) 26 v65) 4 (.int .i64 7),q62.2.1,q62.2.2+3⟩)
 ((Zh (t45 0)).bind fun v66=>(Za 0 v66).bind fun v67=>(Za 0 v67).bind fun v68=>(Za 0 v68).bind fun v69=>(ld false 1 v69 q62.2.1).bind fun v70=>(Zo 5 v70 v63).bind fun v71=>(ld true 5 v71 q62.2.1).bind fun v72=>let H73:=q62.2.1.set (q62.2.2+11) (some (.row [.int .i64 0,.int .i64 0,.string ⟨#[]⟩,.int .i64 0,.int .i64 0] 0 true))
 (st true 5 (ptr (q62.2.2+11) 0) v72 H73).bind fun H74=>(Za 0 (ptr (n) 0)).bind fun v75=>(ld false 1 v75 H74).bind fun v76=>(Zd .plain .eql v76 (.int .i64 4)).bind fun v77=>let t79:Tm:=put (put (put (put (put (put (put (put (put (put (put (put (put (put (put (put (put (put (put (put (put (put (put t45 21 (t45 0)) 22 q62.1) 20 q62.1) 23 v63) 24 v64) 9 v63) 10 v64) 25 v64) 26 v65) 27 (t45 0)) 28 v66) 29 v67) 30 v68) 31 v69) 32 v70) 33 v63) 34 v71) 35 v72) 11 (ptr (q62.2.2+11) 0)) 36 v75) 37 v76) 38 v77) 39 v77
 (gsel v77 true
 ((Za 0 (ptr (q62.2.2+11) 0)).bind fun v80=>(ld false 1 v80 H74).bind fun v81=>(Zd .plain .eql v81 (.int .i64 2)).bind fun v82=>some (put (put (put t79 40 v80) 41 v81) 42 v82,H74,q62.2.2+26))
 (some (put (put (put t79 40 (.tuple #[])) 41 (.tuple #[])) 42 (.tuple #[]),H74,q62.2.2+26))
 ).bind fun(q78:R3)=>(Zl (q78.1 39) (q78.1 42) (.bool false)).bind fun v83=>let t85:Tm:=put (put q78.1 43 v83) 44 v83
 (gsel v83 true
 ((Za 1 (t85 11)).bind fun v86=>(ld false 1 v86 q78.2.1).bind fun v87=>(Zd .plain .eql v87 (.int .i64 0)).bind fun v88=>some (put (put (put t85 45 v86) 46 v87) 47 v88,q78.2.1,q78.2.2))
 (some (put (put (put t85 45 (.tuple #[])) 46 (.tuple #[])) 47 (.tuple #[]),q78.2.1,q78.2.2))
 ).bind fun(q84:R3)=>(Zl (q84.1 44) (q84.1 47) (.bool false)).bind fun v89=>let t91:Tm:=put q84.1 48 v89
 (csel v89
 ((Za 1 (t91 3)).bind fun v92=>(ld false 1 v92 q84.2.1).bind fun v93=>some ⟨.normal,put (put (put t91 49 v92) 50 v93) 5 v93,q84.2.1,q84.2.2+3⟩)
 (some ⟨.normal,t91,q84.2.1,q84.2.2⟩)
 ).bind fun(o90:Out)=>some ⟨.normal,o90.t,o90.H,o90.n⟩))
 ).bind fun(o44:Out)=>some o44)
 ).bind fun(o39:Out)=>some o39)
 ).bind fun(o33:Out)=>some o33)
 ).bind fun(o25:Out)=>some o25)
 ).bind fun(o11:Out)=>let o94:=outOf 0 o11
 Xe o94
 ((Zd .plain .eql (o94.t 6) (.int .i64 0)).bind fun v95=>let t97:Tm:=put (put (put o94.t 108 (o94.t 6)) 109 v95) 110 v95
 (gsel v95 true
 ((Zh (t97 0)).bind fun v98=>(Za 8 v98).bind fun v99=>(ld true 3 v99 o94.H).bind fun v100=>(C 42 [v100,t97 5] o94.H (o94.n+11)).bind fun q101=>(un .not q101.1).bind fun v102=>some (put (put (put (put (put (put (put t97 111 (t97 0)) 112 v98) 113 v99) 114 v100) 115 (t97 5)) 116 q101.1) 117 v102,q101.2.1,q101.2.2))
 (some (put (put (put (put (put (put (put t97 111 (.tuple #[])) 112 (.tuple #[])) 113 (.tuple #[])) 114 (.tuple #[])) 115 (.tuple #[])) 116 (.tuple #[])) 117 (.tuple #[]),o94.H,o94.n+11))
 ).bind fun(q96:R3)=>(Zl (q96.1 110) (q96.1 117) (.bool false)).bind fun v103=>csel v103
 (some (.int .i64 7,q96.2.1,q96.2.2+1))
 ((Zh (q96.1 0)).bind fun v104=>(Za 0 v104).bind fun v105=>(Za 1 v105).bind fun v106=>(st false 1 v106 (q96.1 5) q96.2.1).bind fun H107=>some (q96.1 6,H107,q96.2.2+8)))
 (Vs o94.e
 (some (o94.t 4,o94.H,o94.n)))
theorem s60 (C:Zb)(L:Zc->Zc)(t:Tm)(H:Hp)(n:Nat):Zq Tryz.prog C L Tryz.f60 t H n=S60 C L t H n:=by kernel_rfl
theorem c60 (args:List Value)(H:Hp)(n:Nat):Call Tryz.prog 60 args H n=S60 (Call Tryz.prog) Zm (Zp args) H n:=(Zg Tryz.func60 args H n).trans (s60 ..)
noncomputable def S61 (C:Zb)(L:Zc->Zc)(t:Tm)(H:Hp)(n:Nat):Option (Value × Hp × Nat) :=
 (Zs (t 0)).bind fun c2=>let H1:=H.set (n) (some (.row c2 0 true))
 let H3:=H1.set (n+1) (some (.row [nilS,.int .i64 0,.int .i64 0,.int .i64 0,.int .i64 0,.int .i64 0,.int .i64 0,.int .i64 0] 0 true))
 (ld true 8 (ptr (n) 0) H3).bind fun v4=>(C 28 [v4] H3 (n+5)).bind fun q5=>(st true 8 (ptr (n) 0) q5.1 q5.2.1).bind fun H6=>(Za 5 (ptr (n) 0)).bind fun v7=>(st false 1 v7 (.int .i64 3) H6).bind fun H8=>(Za 6 (ptr (n) 0)).bind fun v9=>(st false 1 v9 (t 1) H8).bind fun H10=>(Za 1 (ptr (n) 0)).bind fun v11=>(st false 1 v11 (.int .i64 0) H10).bind fun H12=>(Za 7 (ptr (n) 0)).bind fun v13=>(st false 1 v13 (.int .i64 0) H12).bind fun H14=>(ld true 8 (ptr (n) 0) H14).bind fun v15=>(st true 8 (ptr (n+1) 0) v15 H14).bind fun H16=>(ld true 8 (ptr (n+1) 0) H16).bind fun v17=>some (v17,H16,q5.2.2+11)
theorem s61 (C:Zb)(L:Zc->Zc)(t:Tm)(H:Hp)(n:Nat):Zq Tryz.prog C L Tryz.f61 t H n=S61 C L t H n:=by kernel_rfl
theorem c61 (args:List Value)(H:Hp)(n:Nat):Call Tryz.prog 61 args H n=S61 (Call Tryz.prog) Zm (Zp args) H n:=(Zg Tryz.func61 args H n).trans (s61 ..)
noncomputable def S68 (C:Zb)(L:Zc->Zc)(t:Tm)(H:Hp)(n:Nat):Option (Value × Hp × Nat) :=
 let H1:=H.set (n) (some (.row [nilS,nilS,nilS] 0 true))
 let H2:=H1.set (n+1) (some (.row [nilS,.int .i64 0,.int .i64 0,.int .i64 0,.int .i64 0,.int .i64 0,.int .i64 0,.int .i64 0] 0 true))
 (C 103 [t 0] H2 (n+6)).bind fun q3=>let H4:=q3.2.1.set (n+4) (some (.row [nilS,nilS,nilS] 0 true))
 (st true 3 (ptr (n+4) 0) q3.1 H4).bind fun H5=>(ld true 3 (ptr (n+4) 0) H5).bind fun v6=>(C 80 [v6,.string ⟨#[109,97,105,110]⟩] H5 (q3.2.2+10)).bind fun q7=>(Zd .plain .lss q7.1 (.int .i64 0)).bind fun v8=>let t10:Tm:=put (put (put (put (put (put (put (put (put (put t 2 (ptr (n) 0)) 3 (ptr (n+1) 0)) 8 (t 0)) 9 q3.1) 4 (ptr (n+4) 0)) 5 (.string ⟨#[109,97,105,110]⟩)) 10 v6) 11 q7.1) 12 v8) 13 v8
 (gsel v8 true
 ((Za 2 (ptr (n+4) 0)).bind fun v11=>(ld false 1 v11 q7.2.1).bind fun v12=>(Zx false v12).bind fun v13=>(Zd .plain .gtr v13 (.int .i64 0)).bind fun v14=>some (put (put (put (put t10 14 v11) 15 v12) 16 v13) 17 v14,q7.2.1,q7.2.2))
 (some (put (put (put (put t10 14 (.tuple #[])) 15 (.tuple #[])) 16 (.tuple #[])) 17 (.tuple #[]),q7.2.1,q7.2.2))
 ).bind fun(q9:R3)=>(Zl (q9.1 13) (q9.1 17) (.bool false)).bind fun v15=>let t17:Tm:=put q9.1 18 v15
 (csel v15
 ((Za 2 (t17 4)).bind fun v18=>(ld false 1 v18 q9.2.1).bind fun v19=>(Zo 3 v19 (.int .i64 0)).bind fun v20=>(Za 0 v20).bind fun v21=>(ld false 1 v21 q9.2.1).bind fun v22=>some ⟨.normal,put (put (put (put (put (put t17 19 v18) 20 v19) 21 v20) 22 v21) 23 v22) 5 v22,q9.2.1,q9.2.2+6⟩)
 (some ⟨.normal,t17,q9.2.1,q9.2.2⟩)
 ).bind fun(o16:Out)=>(ld true 3 (o16.t 4) o16.H).bind fun v23=>(C 104 [v23,o16.t 5] o16.H (o16.n+9)).bind fun q24=>(ext 0 q24.1).bind fun v25=>(ext 1 q24.1).bind fun v26=>let H27:=q24.2.1.set (o16.n+6) (some (.row [nilS,.int .i64 0,.int .i64 0,.int .i64 0,.int .i64 0,.int .i64 0,.int .i64 0,.int .i64 0] 0 true))
 (st true 8 (ptr (o16.n+6) 0) v25 H27).bind fun H28=>(un .not v26).bind fun v29=>let t31:Tm:=put (put (put (put (put (put (put (put (put (put o16.t 25 v23) 26 (o16.t 5)) 27 q24.1) 24 q24.1) 28 v25) 29 v26) 6 (ptr (o16.n+6) 0)) 7 v26) 30 v26) 31 v29
 (csel v29
 ((ld true 3 (t31 4) H28).bind fun v32=>(Xf [.int .i64 0,.int .i64 0,.string ⟨#[]⟩,.int .i64 0,.int .i64 0] [(0,1,.int .i64 1)]).bind fun v33=>(Xf [.int .i64 0,.int .i64 0,.string ⟨#[]⟩,.int .i64 0,.int .i64 0] [(0,1,.int .i64 6)]).bind fun v34=>(Xx (q24.2.2+5) 5 2 [.int .i64 0,.int .i64 0,.string ⟨#[]⟩,.int .i64 0,.int .i64 0] [(0,5,v33),(5,5,v34)] H28).bind fun p35=>(Xf [nilS] [(0,1,p35.1)]).bind fun v36=>(C 105 [v32,v36,.int .i64 1] p35.2 (q24.2.2+12)).bind fun q37=>(ext 0 q37.1).bind fun v38=>(ext 1 q37.1).bind fun v39=>(st true 8 (ptr (o16.n+6) 0) v38 q37.2.1).bind fun H40=>some ⟨.normal,put (put (put (put (put (put (put (put (put t31 33 v32) 34 v33) 35 v34) 36 p35.1) 37 v36) 38 q37.1) 32 q37.1) 39 v38) 40 v39,H40,q37.2.2⟩)
 (some ⟨.normal,t31,H28,q24.2.2+2⟩)
 ).bind fun(o30:Out)=>(ld true 3 (o30.t 4) o30.H).bind fun v41=>(ld true 3 (o30.t 4) o30.H).bind fun v42=>(ld true 8 (o30.t 6) o30.H).bind fun v43=>(C 69 [o30.t 0,.int .i64 60] o30.H (o30.n+9)).bind fun q44=>ask (ld true 8 (o30.t 6) q44.2.1=some v43) <|ask (ld true 3 (o30.t 4) q44.2.1=some v42) <|ask (ld true 3 (o30.t 4) q44.2.1=some v41) <|(C 106 [o30.t 0,v42,v43,q44.1] q44.2.1 (q44.2.2)).bind fun q45=>ask (ld true 3 (o30.t 4) q45.2.1=some v41) <|(st true 3 (o30.t 2) v41 q45.2.1).bind fun H46=>(st true 8 (o30.t 3) q45.1 H46).bind fun H47=>(ld true 3 (o30.t 2) H47).bind fun v48=>(ld true 8 (o30.t 3) H47).bind fun v49=>Yr ([v48,v49].all notTup) <|some (.tuple ⟨[v48,v49]⟩,H47,q45.2.2)
theorem s68 (C:Zb)(L:Zc->Zc)(t:Tm)(H:Hp)(n:Nat):Zq Tryz.prog C L Tryz.f68 t H n=S68 C L t H n:=by kernel_rfl
theorem c68 (args:List Value)(H:Hp)(n:Nat):Call Tryz.prog 68 args H n=S68 (Call Tryz.prog) Zm (Zp args) H n:=(Zg Tryz.func68 args H n).trans (s68 ..)
noncomputable def S69 (C:Zb)(L:Zc->Zc)(t:Tm)(H:Hp)(n:Nat):Option (Value × Hp × Nat) :=
 (Zd .plain .leq (t 1) (.int .i64 0)).bind fun v1=>csel v1
 (some (.int .i64 0,H,n+4))
 ((Zd .plain .leq (t 1) (.int .i64 256)).bind fun v2=>csel v2
 ((C 107 [t 0] H (n+10)).bind fun q3=>(Zd .plain .rem q3.1 (t 1)).bind fun v4=>some (v4,q3.2.1,q3.2.2))
 ((C 107 [t 0] H (n+8)).bind fun q5=>(C 107 [t 0] q5.2.1 (q5.2.2+3)).bind fun q6=>(C 107 [t 0] q6.2.1 (q6.2.2+3)).bind fun q7=>(C 107 [t 0] q7.2.1 (q7.2.2+3)).bind fun q8=>(Zd .plain .mul q5.1 (.int .i64 16777216)).bind fun v9=>(Zd .plain .mul q6.1 (.int .i64 65536)).bind fun v10=>(Zd .plain .add v9 v10).bind fun v11=>(Zd .plain .mul q7.1 (.int .i64 256)).bind fun v12=>(Zd .plain .add v11 v12).bind fun v13=>(Zd .plain .add v13 q8.1).bind fun v14=>(Zd .plain .rem v14 (t 1)).bind fun v15=>some (v15,q8.2.1,q8.2.2+13)))
theorem s69 (C:Zb)(L:Zc->Zc)(t:Tm)(H:Hp)(n:Nat):Zq Tryz.prog C L Tryz.f69 t H n=S69 C L t H n:=by kernel_rfl
theorem c69 (args:List Value)(H:Hp)(n:Nat):Call Tryz.prog 69 args H n=S69 (Call Tryz.prog) Zm (Zp args) H n:=(Zg Tryz.func69 args H n).trans (s69 ..)
noncomputable def S70 (C:Zb)(L:Zc->Zc)(t:Tm)(H:Hp)(n:Nat):Option (Value × Hp × Nat) :=
 (Zx false (t 1)).bind fun v1=>(C 69 [t 0,v1] H (n+9)).bind fun q2=>(Zo 1 (t 1) q2.1).bind fun v3=>(ld false 1 v3 q2.2.1).bind fun v4=>some (v4,q2.2.1,q2.2.2)
theorem s70 (C:Zb)(L:Zc->Zc)(t:Tm)(H:Hp)(n:Nat):Zq Tryz.prog C L Tryz.f70 t H n=S70 C L t H n:=by kernel_rfl
theorem c70 (args:List Value)(H:Hp)(n:Nat):Call Tryz.prog 70 args H n=S70 (Call Tryz.prog) Zm (Zp args) H n:=(Zg Tryz.func70 args H n).trans (s70 ..)
noncomputable def S71 (C:Zb)(L:Zc->Zc)(t:Tm)(H:Hp)(n:Nat):Option (Value × Hp × Nat) :=
 (Zs (t 1)).bind fun c2=>let H1:=H.set (n) (some (.row c2 0 true))
 (Za 0 (ptr (n) 0)).bind fun v3=>(ld false 1 v3 H1).bind fun v4=>(Zx false v4).bind fun v5=>(Zd .plain .eql v5 (.int .i64 0)).bind fun v6=>let t8:Tm:=put (put (put (put (put (put (put t 3 (ptr (n) 0)) 4 (.int .i64 0)) 5 v3) 6 v4) 7 v5) 8 v6) 9 v6
 (gsel v6 false
 ((C 108 [t8 0,.int .i64 20] H1 (n+10)).bind fun q9=>some (put (put t8 10 (t8 0)) 11 q9.1,q9.2.1,q9.2.2))
 (some (put (put t8 10 (.tuple #[])) 11 (.tuple #[]),H1,n+10))
 ).bind fun(q7:R3)=>(Zl (q7.1 9) (.bool true) (q7.1 11)).bind fun v10=>csel v10
 ((Za 0 (q7.1 3)).bind fun v11=>(ld false 1 v11 q7.2.1).bind fun v12=>(Zx false v12).bind fun v13=>(Xx (q7.2.2+4) 1 3 [.int .i64 0] [(0,1,.int .i64 (-1)),(1,1,.int .i64 0),(2,1,v13)] q7.2.1).bind fun p14=>(C 70 [q7.1 0,p14.1] p14.2 (q7.2.2+7)).bind fun q15=>some (q15.1,q15.2.1,q15.2.2))
 ((Za 0 (q7.1 3)).bind fun v16=>(ld false 1 v16 q7.2.1).bind fun v17=>(Zx false v17).bind fun v18=>(Zd .plain .sub v18 (.int .i64 1)).bind fun v19=>(Za 0 (q7.1 3)).bind fun v20=>(ld false 1 v20 q7.2.1).bind fun v21=>(Zx false v21).bind fun v22=>(C 109 [v22,.int .i64 9] q7.2.1 (q7.2.2+12)).bind fun q23=>ask (ld false 1 v16 q23.2.1=some v17) <|(C 69 [q7.1 0,q23.1] q23.2.1 (q23.2.2)).bind fun q24=>ask (ld false 1 v16 q24.2.1=some v17) <|(Zd .plain .sub v19 q24.1).bind fun v25=>some (v25,q24.2.1,q24.2.2))
theorem s71 (C:Zb)(L:Zc->Zc)(t:Tm)(H:Hp)(n:Nat):Zq Tryz.prog C L Tryz.f71 t H n=S71 C L t H n:=by kernel_rfl
theorem c71 (args:List Value)(H:Hp)(n:Nat):Call Tryz.prog 71 args H n=S71 (Call Tryz.prog) Zm (Zp args) H n:=(Zg Tryz.func71 args H n).trans (s71 ..)
noncomputable def S72 (C:Zb)(L:Zc->Zc)(t:Tm)(H:Hp)(n:Nat):Option (Value × Hp × Nat) :=
 let H1:=H.set (n) (some (.row [nilS,nilS,nilS] 0 true))
 (C 103 [t 0] H1 (n+5)).bind fun q2=>let H3:=q2.2.1.set (n+3) (some (.row [nilS,nilS,nilS] 0 true))
 (st true 3 (ptr (n+3) 0) q2.1 H3).bind fun H4=>(Za 1 (ptr (n+3) 0)).bind fun v5=>(ld false 1 v5 H4).bind fun v6=>(Zx false v6).bind fun v7=>(C 69 [t 0,v7] H4 (q2.2.2+6)).bind fun q8=>(C 69 [t 0,.int .i64 25] q8.2.1 (q8.2.2+2)).bind fun q9=>(Zd .plain .eql q9.1 (.int .i64 0)).bind fun v10=>let t12:Tm:=put (put (put (put (put (put (put (put (put (put (put (put (put (put t 2 (ptr (n) 0)) 5 (t 0)) 6 q2.1) 3 (ptr (n+3) 0)) 7 (t 0)) 8 v5) 9 v6) 10 v7) 11 q8.1) 4 q8.1) 12 (t 0)) 13 q9.1) 15 v10) 14 v10
 (csel v10
 ((Za 1 (ptr (n+3) 0)).bind fun v13=>(ld false 1 v13 q9.2.1).bind fun v14=>(C 69 [t12 0,.int .i64 11] q9.2.1 (q9.2.2+10)).bind fun q15=>ask (ld false 1 v13 q15.2.1=some v14) <|(Zo 4 v14 q8.1).bind fun v16=>(Za 0 v16).bind fun v17=>(st false 1 v17 q15.1 q15.2.1).bind fun H18=>some ⟨.normal,put (put (put (put (put (put (put t12 16 v13) 17 v14) 18 q8.1) 19 (t12 0)) 20 q15.1) 21 v16) 22 v17,H18,q15.2.2⟩)
 ((Zd .plain .eql q9.1 (.int .i64 1)).bind fun v19=>let t21:Tm:=put (put t12 24 v19) 23 v19
 (csel v19
 ((Za 1 (ptr (n+3) 0)).bind fun v22=>(ld false 1 v22 q9.2.1).bind fun v23=>(Zd .plain .add q8.1 (.int .i64 1)).bind fun v24=>(Za 1 (ptr (n+3) 0)).bind fun v25=>(ld false 1 v25 q9.2.1).bind fun v26=>(Zx false v26).bind fun v27=>(Za 1 (ptr (n+3) 0)).bind fun v28=>(ld false 1 v28 q9.2.1).bind fun v29=>(Zx false v29).bind fun v30=>(Zd .plain .add v30 (.int .i64 1)).bind fun v31=>(Xx (q9.2.2+18) 1 6 [.int .i64 0] [(0,1,.int .i64 (-1)),(1,1,.int .i64 0),(2,1,q8.1),(3,1,v24),(4,1,v27),(5,1,v31)] q9.2.1).bind fun p32=>(C 70 [t21 0,p32.1] p32.2 (q9.2.2+23)).bind fun q33=>ask (ld false 1 v22 q33.2.1=some v23) <|(Zo 4 v23 q8.1).bind fun v34=>(Za 1 v34).bind fun v35=>(st false 1 v35 q33.1 q33.2.1).bind fun H36=>some ⟨.normal,put (put (put (put (put (put (put (put (put (put (put (put (put (put (put (put (put (put t21 25 v22) 26 v23) 27 q8.1) 28 (t21 0)) 29 q8.1) 30 q8.1) 31 v24) 32 v25) 33 v26) 34 v27) 35 v28) 36 v29) 37 v30) 38 v31) 39 p32.1) 40 q33.1) 41 v34) 42 v35,H36,q33.2.2⟩)
 ((Zd .plain .eql q9.1 (.int .i64 2)).bind fun v37=>let t39:Tm:=put (put t21 44 v37) 43 v37
 (csel v37
 ((Za 1 (ptr (n+3) 0)).bind fun v40=>(ld false 1 v40 q9.2.1).bind fun v41=>(C 69 [t39 0,.int .i64 7] q9.2.1 (q9.2.2+15)).bind fun q42=>ask (ld false 1 v40 q42.2.1=some v41) <|(Zd .plain .sub q42.1 (.int .i64 1)).bind fun v43=>(Zo 4 v41 q8.1).bind fun v44=>(Za 2 v44).bind fun v45=>(st false 1 v45 v43 q42.2.1).bind fun H46=>some ⟨.normal,put (put (put (put (put (put (put (put t39 45 v40) 46 v41) 47 q8.1) 48 (t39 0)) 49 q42.1) 50 v43) 51 v44) 52 v45,H46,q42.2.2⟩)
 ((Zd .plain .eql q9.1 (.int .i64 3)).bind fun v47=>let t49:Tm:=put (put t39 54 v47) 53 v47
 (csel v47
 ((Za 1 (ptr (n+3) 0)).bind fun v50=>(ld false 1 v50 q9.2.1).bind fun v51=>(Xx (q9.2.2+12) 1 3 [.string ⟨#[]⟩] [(0,1,.string ⟨#[]⟩),(1,1,.string ⟨#[97]⟩),(2,1,.string ⟨#[65]⟩)] q9.2.1).bind fun p52=>(C 110 [t49 0,p52.1] p52.2 (q9.2.2+17)).bind fun q53=>ask (ld false 1 v50 q53.2.1=some v51) <|(Zo 4 v51 q8.1).bind fun v54=>(Za 3 v54).bind fun v55=>(st false 1 v55 q53.1 q53.2.1).bind fun H56=>some ⟨.normal,put (put (put (put (put (put (put (put t49 55 v50) 56 v51) 57 q8.1) 58 (t49 0)) 59 p52.1) 60 q53.1) 61 v54) 62 v55,H56,q53.2.2⟩)
 ((Zd .plain .eql q9.1 (.int .i64 4)).bind fun v57=>let t59:Tm:=put (put t49 64 v57) 63 v57
 (csel v57
 ((Za 2 (ptr (n+3) 0)).bind fun v60=>(ld false 1 v60 q9.2.1).bind fun v61=>(Xx (q9.2.2+13) 1 4 [.string ⟨#[]⟩] [(0,1,.string ⟨#[102]⟩),(1,1,.string ⟨#[109,97,105,110]⟩),(2,1,.string ⟨#[122,122]⟩),(3,1,.string ⟨#[65]⟩)] q9.2.1).bind fun p62=>(C 110 [t59 0,p62.1] p62.2 (q9.2.2+24)).bind fun q63=>ask (ld false 1 v60 q63.2.1=some v61) <|(C 69 [t59 0,.int .i64 60] q63.2.1 (q63.2.2)).bind fun q64=>ask (ld false 1 v60 q64.2.1=some v61) <|(C 69 [t59 0,.int .i64 6] q64.2.1 (q64.2.2)).bind fun q65=>ask (ld false 1 v60 q65.2.1=some v61) <|(Xf [.string ⟨#[]⟩,.int .i64 0,.int .i64 0] [(0,1,q63.1),(1,1,q64.1),(2,1,q65.1)]).bind fun v66=>(Xx (q9.2.2+20) 3 1 [.string ⟨#[]⟩,.int .i64 0,.int .i64 0] [(0,3,v66)] q65.2.1).bind fun p67=>(app (q9.2.2+21) 3 32 v61 p67.1 p67.2).bind fun p68=>(Za 2 (ptr (n+3) 0)).bind fun v69=>(st false 1 v69 p68.1 p68.2).bind fun H70=>some ⟨.normal,put (put (put (put (put (put (put (put (put (put (put (put (put t59 65 v60) 66 v61) 67 (t59 0)) 68 p62.1) 69 q63.1) 70 (t59 0)) 71 q64.1) 72 (t59 0)) 73 q65.1) 74 v66) 75 p67.1) 76 p68.1) 77 v69,H70,q65.2.2⟩)
 ((Zd .plain .eql q9.1 (.int .i64 5)).bind fun v71=>let t73:Tm:=put (put t59 79 v71) 78 v71
 (csel v71
 ((C 73 [t73 0] q9.2.1 (q9.2.2+16)).bind fun q74=>(Za 0 (ptr (n+3) 0)).bind fun v75=>(st true 1 v75 q74.1 q74.2.1).bind fun H76=>some ⟨.normal,put (put (put t73 80 (t73 0)) 81 q74.1) 82 v75,H76,q74.2.2⟩)
 (some ⟨.normal,t73,q9.2.1,q9.2.2+12⟩)
 ).bind fun(o72:Out)=>some ⟨.normal,o72.t,o72.H,o72.n⟩)
 ).bind fun(o58:Out)=>some ⟨.normal,o58.t,o58.H,o58.n⟩)
 ).bind fun(o48:Out)=>some ⟨.normal,o48.t,o48.H,o48.n⟩)
 ).bind fun(o38:Out)=>some ⟨.normal,o38.t,o38.H,o38.n⟩)
 ).bind fun(o20:Out)=>some ⟨.normal,o20.t,o20.H,o20.n⟩)
 ).bind fun(o11:Out)=>(ld true 3 (o11.t 3) o11.H).bind fun v77=>(st true 3 (o11.t 2) v77 o11.H).bind fun H78=>(ld true 3 (o11.t 2) H78).bind fun v79=>some (v79,H78,o11.n+2)
theorem s72 (C:Zb)(L:Zc->Zc)(t:Tm)(H:Hp)(n:Nat):Zq Tryz.prog C L Tryz.f72 t H n=S72 C L t H n:=by kernel_rfl
theorem c72 (args:List Value)(H:Hp)(n:Nat):Call Tryz.prog 72 args H n=S72 (Call Tryz.prog) Zm (Zp args) H n:=(Zg Tryz.func72 args H n).trans (s72 ..)
noncomputable def S73L0 (C:Zb)(L:Zc->Zc):Zc:=fun t H n=>(Za 0 (t 3)).bind fun v37=>(ld false 1 v37 H).bind fun v38=>(Zx false v38).bind fun v39=>(Zd .plain .lss (t 5) v39).bind fun v40=>csel v40
 ((Za 0 (t 3)).bind fun v41=>(ld false 1 v41 H).bind fun v42=>(Zo 5 v42 (t 5)).bind fun v43=>(Za 0 v43).bind fun v44=>(st false 1 v44 (.int .i64 1) H).bind fun H45=>(Zd .plain .add (t 5) (.int .i64 1)).bind fun v46=>some ⟨.normal,put (put (put (put (put (put (put (put (put (put (put (put (put t 39 (t 5)) 40 v37) 41 v38) 42 v39) 43 v40) 46 v41) 47 v42) 48 (t 5)) 49 v43) 50 v44) 44 (t 5)) 45 v46) 5 v46,H45,n+14⟩)
 (some ⟨(.exit 0),put (put (put (put (put t 39 (t 5)) 40 v37) 41 v38) 42 v39) 43 v40,H,n+5⟩)
noncomputable def S73 (C:Zb)(L:Zc->Zc)(t:Tm)(H:Hp)(n:Nat):Option (Value × Hp × Nat) :=
 let H1:=H.set (n) (some (.row [nilS] 0 true))
 (C 111 [t 0] H1 (n+5)).bind fun q2=>let H3:=q2.2.1.set (n+3) (some (.row [nilS] 0 true))
 (st true 1 (ptr (n+3) 0) q2.1 H3).bind fun H4=>(Za 0 (ptr (n+3) 0)).bind fun v5=>(ld false 1 v5 H4).bind fun v6=>(Zx false v6).bind fun v7=>(Zd .plain .gtr v7 (.int .i64 0)).bind fun v8=>let t10:Tm:=put (put (put (put (put (put (put (put (put t 2 (ptr (n) 0)) 6 (t 0)) 7 q2.1) 3 (ptr (n+3) 0)) 8 v5) 9 v6) 10 v7) 11 v8) 12 v8
 (gsel v8 true
 ((C 108 [t10 0,.int .i64 12] H4 (q2.2.2+8)).bind fun q11=>some (put (put t10 13 (t10 0)) 14 q11.1,q11.2.1,q11.2.2))
 (some (put (put t10 13 (.tuple #[])) 14 (.tuple #[]),H4,q2.2.2+8))
 ).bind fun(q9:R3)=>(Zl (q9.1 12) (q9.1 14) (.bool false)).bind fun v12=>let t14:Tm:=put q9.1 15 v12
 (csel v12
 ((Za 0 (t14 3)).bind fun v15=>(ld false 1 v15 q9.2.1).bind fun v16=>(Zx false v16).bind fun v17=>(C 69 [t14 0,v17] q9.2.1 (q9.2.2+6)).bind fun q18=>(Za 0 (t14 3)).bind fun v19=>(ld false 1 v19 q18.2.1).bind fun v20=>(Za 0 (t14 3)).bind fun v21=>(ld false 1 v21 q18.2.1).bind fun v22=>(Zo 5 v22 q18.1).bind fun v23=>(ld true 5 v23 q18.2.1).bind fun v24=>(C 112 [t14 0,v24] q18.2.1 (q18.2.2+12)).bind fun q25=>ask (ld false 1 v19 q25.2.1=some v20) <|(Zo 5 v20 q18.1).bind fun v26=>(st true 5 v26 q25.1 q25.2.1).bind fun H27=>some ⟨.normal,put (put (put (put (put (put (put (put (put (put (put (put (put (put (put (put (put t14 16 (t14 0)) 17 v15) 18 v16) 19 v17) 20 q18.1) 4 q18.1) 21 v19) 22 v20) 23 q18.1) 24 (t14 0)) 25 v21) 26 v22) 27 q18.1) 28 v23) 29 v24) 30 q25.1) 31 v26,H27,q25.2.2⟩)
 (some ⟨.normal,t14,q9.2.1,q9.2.2⟩)
 ).bind fun(o13:Out)=>(C 108 [o13.t 0,.int .i64 60] o13.H (o13.n+2)).bind fun q28=>let t30:Tm:=put (put o13.t 32 (o13.t 0)) 33 q28.1
 (csel q28.1
 ((C 69 [t30 0,.int .i64 2] q28.2.1 (q28.2.2+6)).bind fun q31=>(Zd .plain .add (.int .i64 3000) q31.1).bind fun v32=>(mks (q28.2.2+3) 5 48 [.int .i64 0,.int .i64 0,.string ⟨#[]⟩,.int .i64 0,.int .i64 0] v32 v32 q31.2.1).bind fun p33=>(Za 0 (t30 3)).bind fun v34=>(st false 1 v34 p33.1 p33.2).bind fun H35=>(L (S73L0 C L) (put (put (put (put (put (put t30 34 (t30 0)) 35 q31.1) 36 v32) 37 p33.1) 38 v34) 5 (.int .i64 0)) H35 (q31.2.2+1)).bind fun(o36:Out)=>some ⟨.normal,o36.t,o36.H,o36.n⟩)
 (some ⟨.normal,t30,q28.2.1,q28.2.2⟩)
 ).bind fun(o29:Out)=>(ld true 1 (o29.t 3) o29.H).bind fun v47=>(st true 1 (o29.t 2) v47 o29.H).bind fun H48=>(ld true 1 (o29.t 2) H48).bind fun v49=>some (v49,H48,o29.n+2)
theorem s73 (C:Zb)(L:Zc->Zc)(t:Tm)(H:Hp)(n:Nat):Zq Tryz.prog C L Tryz.f73 t H n=S73 C L t H n:=by kernel_rfl
theorem c73 (args:List Value)(H:Hp)(n:Nat):Call Tryz.prog 73 args H n=S73 (Call Tryz.prog) Zm (Zp args) H n:=(Zg Tryz.func73 args H n).trans (s73 ..)
noncomputable def S74 (C:Zb)(L:Zc->Zc)(t:Tm)(H:Hp)(n:Nat):Option (Value × Hp × Nat) :=
 (Zs (t 0)).bind fun c2=>let H1:=H.set (n) (some (.row c2 0 true))
 (Za 1 (ptr (n) 0)).bind fun v3=>(ld false 1 v3 H1).bind fun v4=>(Zo 4 v4 (t 1)).bind fun v5=>(ld true 4 v5 H1).bind fun v6=>let H7:=H1.set (n+7) (some (.row [.int .i64 0,.int .i64 0,.int .i64 0,.string ⟨#[]⟩] 0 true))
 (st true 4 (ptr (n+7) 0) v6 H7).bind fun H8=>(Za 1 (ptr (n+7) 0)).bind fun v9=>(ld false 1 v9 H8).bind fun v10=>(Zd .plain .eql v10 (.int .i64 0)).bind fun v11=>(Za 2 (ptr (n+7) 0)).bind fun v12=>(ld false 1 v12 H8).bind fun v13=>(Zd .plain .eql v13 (.int .i64 0)).bind fun v14=>(Za 3 (ptr (n+7) 0)).bind fun v15=>(ld false 1 v15 H8).bind fun v16=>(Zd .plain .eql v16 (.string ⟨#[]⟩)).bind fun v17=>(Za 0 (ptr (n+7) 0)).bind fun v18=>(ld false 1 v18 H8).bind fun v19=>(Zd .plain .eql v19 (.int .i64 1)).bind fun v20=>let t22:Tm:=put (put (put (put (put (put (put (put (put (put (put (put (put (put (put (put (put (put (put (put (put (put (put (put t 2 (ptr (n) 0)) 4 (.bool false)) 9 v3) 10 v4) 11 (t 1)) 12 v5) 13 v6) 5 (ptr (n+7) 0)) 14 v9) 15 v10) 16 v11) 17 v12) 18 v13) 19 v14) 20 v15) 21 v16) 22 v17) 6 v11) 7 v14) 8 v17) 23 v18) 24 v19) 26 v20) 25 v20
 (csel v20
 ((Za 0 (ptr (n) 0)).bind fun v23=>(ld true 1 v23 H8).bind fun v24=>(Za 1 (ptr (n+7) 0)).bind fun v25=>(ld false 1 v25 H8).bind fun v26=>(C 41 [v24,v26] H8 (n+31)).bind fun q27=>some ⟨.normal,put (put (put (put (put (put t22 27 v23) 28 v24) 29 v25) 30 v26) 31 q27.1) 6 q27.1,q27.2.1,q27.2.2⟩)
 ((Zd .plain .eql v19 (.int .i64 2)).bind fun v28=>let t30:Tm:=put (put t22 33 v28) 32 v28
 (csel v28
 ((Za 1 (ptr (n+7) 0)).bind fun v31=>(ld false 1 v31 H8).bind fun v32=>(C 43 [v32,.int .i64 0,.int .i64 20] H8 (n+35)).bind fun q33=>(Za 2 (ptr (n+7) 0)).bind fun v34=>(ld false 1 v34 q33.2.1).bind fun v35=>ask (ld false 1 v34 H8=some v35) <|(C 43 [v35,.int .i64 0,.int .i64 3] q33.2.1 (q33.2.2)).bind fun q36=>some ⟨.normal,put (put (put (put (put (put (put (put t30 34 v31) 35 v32) 36 q33.1) 37 v34) 38 v35) 39 q36.1) 6 q33.1) 7 q36.1,q36.2.1,q36.2.2⟩)
 ((Zd .plain .eql v19 (.int .i64 3)).bind fun v37=>let t39:Tm:=put (put t30 41 v37) 40 v37
 (csel v37
 ((Za 3 (ptr (n+7) 0)).bind fun v40=>(ld false 1 v40 H8).bind fun v41=>(C 75 [v41] H8 (n+33)).bind fun q42=>some ⟨.normal,put (put (put (put t39 42 v40) 43 v41) 44 q42.1) 8 q42.1,q42.2.1,q42.2.2⟩)
 ((Zd .plain .eql v19 (.int .i64 4)).bind fun v43=>let t45:Tm:=put (put t39 46 v43) 45 v43
 (csel v43
 (some ⟨.normal,t45,H8,n+31⟩)
 ((Zd .plain .eql v19 (.int .i64 5)).bind fun v46=>some ⟨.normal,put (put t45 47 v46) 45 v46,H8,n+33⟩)
 ).bind fun(o44:Out)=>(csel (o44.t 45)
 ((Za 1 (o44.t 5)).bind fun v49=>(ld false 1 v49 o44.H).bind fun v50=>(Zd .plain .add (o44.t 1) (.int .i64 1)).bind fun v51=>(Za 1 (o44.t 2)).bind fun v52=>(ld false 1 v52 o44.H).bind fun v53=>(Zx false v53).bind fun v54=>(C 43 [v50,v51,v54] o44.H (o44.n+9)).bind fun q55=>some ⟨.normal,put (put (put (put (put (put (put (put (put o44.t 48 v49) 49 v50) 50 (o44.t 1)) 51 v51) 52 v52) 53 v53) 54 v54) 55 q55.1) 6 q55.1,q55.2.1,q55.2.2⟩)
 ((Zd .plain .eql (o44.t 24) (.int .i64 6)).bind fun v56=>let t58:Tm:=put (put o44.t 57 v56) 56 v56
 (csel v56
 ((Za 1 (t58 5)).bind fun v59=>(ld false 1 v59 o44.H).bind fun v60=>(Zd .plain .add (t58 1) (.int .i64 1)).bind fun v61=>(Za 1 (t58 2)).bind fun v62=>(ld false 1 v62 o44.H).bind fun v63=>(Zx false v63).bind fun v64=>(Zd .plain .sub v64 (.int .i64 1)).bind fun v65=>(C 43 [v60,v61,v65] o44.H (o44.n+16)).bind fun q66=>(Za 2 (t58 5)).bind fun v67=>(ld false 1 v67 q66.2.1).bind fun v68=>ask (ld false 1 v67 o44.H=some v68) <|(C 43 [v68,.int .i64 0,.int .i64 4] q66.2.1 (q66.2.2)).bind fun q69=>some ⟨.normal,put (put (put (put (put (put (put (put (put (put (put (put (put (put t58 58 v59) 59 v60) 60 (t58 1)) 61 v61) 62 v62) 63 v63) 64 v64) 65 v65) 66 q66.1) 67 v67) 68 v68) 69 q69.1) 6 q66.1) 7 q69.1,q69.2.1,q69.2.2⟩)
 ((Zd .plain .eql (t58 24) (.int .i64 7)).bind fun v70=>let t72:Tm:=put (put t58 71 v70) 70 v70
 (csel v70
 ((Za 2 (t72 5)).bind fun v73=>(ld false 1 v73 o44.H).bind fun v74=>(C 43 [v74,.int .i64 0,.int .i64 4] o44.H (o44.n+8)).bind fun q75=>some ⟨.normal,put (put (put (put t72 72 v73) 73 v74) 74 q75.1) 7 q75.1,q75.2.1,q75.2.2⟩)
 ((Zd .plain .eql (t72 24) (.int .i64 8)).bind fun v76=>let t78:Tm:=put (put t72 76 v76) 75 v76
 (csel v76
 (some ⟨.normal,t78,o44.H,o44.n+6⟩)
 ((Zd .plain .eql (t78 24) (.int .i64 9)).bind fun v79=>some ⟨.normal,put (put t78 77 v79) 75 v79,o44.H,o44.n+8⟩)
 ).bind fun(o77:Out)=>csel (o77.t 75)
 (some ⟨.normal,o77.t,o77.H,o77.n⟩)
 (some ⟨.ret,put o77.t 4 (.bool false),o77.H,o77.n+1⟩))
 ).bind fun(o71:Out)=>some o71)
 ).bind fun(o57:Out)=>some o57)
 ).bind fun(o47:Out)=>some o47)
 ).bind fun(o38:Out)=>some o38)
 ).bind fun(o29:Out)=>some o29)
 ).bind fun(o21:Out)=>let o80:=outOf 0 o21
 Xe o80
 ((Zl (o80.t 6) (gsel (o80.t 6) true (o80.t 7) (.tuple #[])) (.bool false)).bind fun v81=>(Zl v81 (gsel v81 true (o80.t 8) (.tuple #[])) (.bool false)).bind fun v82=>some (v82,o80.H,o80.n+8))
 (Vs o80.e
 (some (o80.t 4,o80.H,o80.n)))
theorem s74 (C:Zb)(L:Zc->Zc)(t:Tm)(H:Hp)(n:Nat):Zq Tryz.prog C L Tryz.f74 t H n=S74 C L t H n:=by kernel_rfl
theorem c74 (args:List Value)(H:Hp)(n:Nat):Call Tryz.prog 74 args H n=S74 (Call Tryz.prog) Zm (Zp args) H n:=(Zg Tryz.func74 args H n).trans (s74 ..)
noncomputable def S75L0 (C:Zb)(L:Zc->Zc):Zc:=fun t H n=>(Zd .plain .lss (t 10) (t 9)).bind fun v6=>csel v6
 ((idxS (t 0) (t 10)).bind fun v7=>(C 113 [v7] H (n+8)).bind fun q8=>(un .not q8.1).bind fun v9=>csel v9
 (some ⟨.ret,put (put (put (put (put (put (put (put (put t 11 v6) 12 (t 10)) 3 (t 10)) 13 (t 0)) 14 (t 10)) 15 v7) 16 q8.1) 17 v9) 2 (.bool false),q8.2.1,q8.2.2+1⟩)
 ((Zd .plain .add (t 10) (.int .i64 1)).bind fun v10=>some ⟨.normal,put (put (put (put (put (put (put (put (put (put t 11 v6) 12 (t 10)) 3 (t 10)) 13 (t 0)) 14 (t 10)) 15 v7) 16 q8.1) 17 v9) 18 v10) 10 v10,q8.2.1,q8.2.2+2⟩))
 (some ⟨(.exit 0),put t 11 v6,H,n+1⟩)
noncomputable def S75 (C:Zb)(L:Zc->Zc)(t:Tm)(H:Hp)(n:Nat):Option (Value × Hp × Nat) :=
 (Zx true (t 0)).bind fun v1=>(C 43 [v1,.int .i64 1,.int .i64 12] H (n+5)).bind fun q2=>(un .not q2.1).bind fun v3=>csel v3
 (some (.bool false,q2.2.1,q2.2.2+1))
 ((Zx true (t 0)).bind fun v4=>(L (S75L0 C L) (put (put (put (put (put (put (put (put t 2 (.bool false)) 4 (t 0)) 5 v1) 6 q2.1) 7 v3) 8 (t 0)) 9 v4) 10 (.int .i64 0)) q2.2.1 (q2.2.2+3)).bind fun(o5:Out)=>let o11:=outOf 0 o5
 Xe o11
 (some (.bool true,o11.H,o11.n+1))
 (Vs o11.e
 (some (o11.t 2,o11.H,o11.n))))
theorem s75 (C:Zb)(L:Zc->Zc)(t:Tm)(H:Hp)(n:Nat):Zq Tryz.prog C L Tryz.f75 t H n=S75 C L t H n:=by kernel_rfl
theorem c75 (args:List Value)(H:Hp)(n:Nat):Call Tryz.prog 75 args H n=S75 (Call Tryz.prog) Zm (Zp args) H n:=(Zg Tryz.func75 args H n).trans (s75 ..)
noncomputable def S76 (C:Zb)(L:Zc->Zc)(t:Tm)(H:Hp)(n:Nat):Option (Value × Hp × Nat) :=
 (Zs (t 0)).bind fun c2=>let H1:=H.set (n) (some (.row c2 0 true))
 (Zs (t 1)).bind fun c4=>let H3:=H1.set (n+1) (some (.row c4 0 true))
 (Za 2 (ptr (n) 0)).bind fun v5=>(ld false 1 v5 H3).bind fun v6=>Yr ([ptr (n+1) 0].all ptrV) <|(C 114 [v6,.func (.func 115) #[] ⟨[ptr (n+1) 0]⟩] H3 (n+8)).bind fun q7=>some (q7.1,q7.2.1,q7.2.2)
theorem s76 (C:Zb)(L:Zc->Zc)(t:Tm)(H:Hp)(n:Nat):Zq Tryz.prog C L Tryz.f76 t H n=S76 C L t H n:=by kernel_rfl
theorem c76 (args:List Value)(H:Hp)(n:Nat):Call Tryz.prog 76 args H n=S76 (Call Tryz.prog) Zm (Zp args) H n:=(Zg Tryz.func76 args H n).trans (s76 ..)
noncomputable def S77 (C:Zb)(L:Zc->Zc)(t:Tm)(H:Hp)(n:Nat):Option (Value × Hp × Nat) :=
 (Zs (t 0)).bind fun c2=>let H1:=H.set (n) (some (.row c2 0 true))
 (Za 2 (ptr (n) 0)).bind fun v3=>(ld false 1 v3 H1).bind fun v4=>(Zd .plain .eql v4 (.string ⟨#[]⟩)).bind fun v5=>(Za 3 (ptr (n) 0)).bind fun v6=>(ld false 1 v6 H1).bind fun v7=>(Zd .plain .eql v7 (.int .i64 0)).bind fun v8=>(Za 4 (ptr (n) 0)).bind fun v9=>(ld false 1 v9 H1).bind fun v10=>(Zd .plain .eql v10 (.int .i64 0)).bind fun v11=>(Za 0 (ptr (n) 0)).bind fun v12=>(ld false 1 v12 H1).bind fun v13=>(Zd .plain .eql v13 (.int .i64 1)).bind fun v14=>let t16:Tm:=put (put (put (put (put (put (put (put (put (put (put (put (put (put (put (put (put (put (put (put t 2 (ptr (n) 0)) 4 (.bool false)) 10 v3) 11 v4) 12 v5) 5 (.int .i64 0)) 6 (.int .i64 0)) 7 v5) 13 v6) 14 v7) 15 v8) 16 v9) 17 v10) 18 v11) 8 v8) 9 v11) 19 v12) 20 v13) 22 v14) 21 v14
 (csel v14
 (some ⟨.normal,t16,H1,n+20⟩)
 ((Zd .plain .eql v13 (.int .i64 2)).bind fun v17=>let t19:Tm:=put (put t16 24 v17) 23 v17
 (csel v17
 (some ⟨.normal,put t19 6 (.int .i64 1),H1,n+23⟩)
 ((Zd .plain .eql v13 (.int .i64 3)).bind fun v20=>let t22:Tm:=put (put t19 26 v20) 25 v20
 (csel v20
 (some ⟨.normal,put (put t22 5 (.int .i64 (-1000000000))) 6 (.int .i64 1000000000),H1,n+26⟩)
 ((Zd .plain .eql v13 (.int .i64 4)).bind fun v23=>let t25:Tm:=put (put t22 28 v23) 27 v23
 (csel v23
 ((Za 2 (ptr (n) 0)).bind fun v26=>(ld false 1 v26 H1).bind fun v27=>(C 75 [v27] H1 (n+30)).bind fun q28=>some ⟨.normal,put (put (put (put t25 29 v26) 30 v27) 31 q28.1) 7 q28.1,q28.2.1,q28.2.2⟩)
 ((Zd .plain .eql v13 (.int .i64 5)).bind fun v29=>let t31:Tm:=put (put t25 33 v29) 32 v29
 (csel v29
 ((Za 3 (ptr (n) 0)).bind fun v32=>(ld false 1 v32 H1).bind fun v33=>(Zd .plain .sub (t31 1) (.int .i64 1)).bind fun v34=>(C 43 [v33,.int .i64 0,v34] H1 (n+40)).bind fun q35=>(Za 4 (ptr (n) 0)).bind fun v36=>(ld false 1 v36 q35.2.1).bind fun v37=>ask (ld false 1 v36 H1=some v37) <|(Zd .plain .sub (t31 1) (.int .i64 1)).bind fun v38=>(C 43 [v37,.int .i64 0,v38] q35.2.1 (q35.2.2)).bind fun q39=>some ⟨.normal,put (put (put (put (put (put (put (put (put (put (put (put t31 34 v32) 35 v33) 36 (t31 1)) 37 v34) 38 q35.1) 39 v36) 40 v37) 41 (t31 1)) 42 v38) 43 q39.1) 8 q35.1) 9 q39.1,q39.2.1,q39.2.2⟩)
 ((Zd .plain .eql v13 (.int .i64 6)).bind fun v40=>let t42:Tm:=put (put t31 45 v40) 44 v40
 (csel v40
 ((Za 3 (ptr (n) 0)).bind fun v43=>(ld false 1 v43 H1).bind fun v44=>(Zd .plain .sub (t42 1) (.int .i64 1)).bind fun v45=>(C 43 [v44,.int .i64 0,v45] H1 (n+37)).bind fun q46=>some ⟨.normal,put (put (put (put (put (put (put t42 46 v43) 47 v44) 48 (t42 1)) 49 v45) 50 q46.1) 6 (.int .i64 1000000000)) 8 q46.1,q46.2.1,q46.2.2⟩)
 ((Zd .plain .eql v13 (.int .i64 7)).bind fun v47=>let t49:Tm:=put (put t42 52 v47) 51 v47
 (csel v47
 ((Za 3 (ptr (n) 0)).bind fun v50=>(ld false 1 v50 H1).bind fun v51=>(Zd .plain .sub (t49 1) (.int .i64 1)).bind fun v52=>(C 43 [v51,.int .i64 0,v52] H1 (n+38)).bind fun q53=>some ⟨.normal,put (put (put (put (put (put t49 53 v50) 54 v51) 55 (t49 1)) 56 v52) 57 q53.1) 8 q53.1,q53.2.1,q53.2.2⟩)
 ((Zd .plain .eql v13 (.int .i64 8)).bind fun v54=>let t56:Tm:=put (put t49 59 v54) 58 v54
 (csel v54
 (some ⟨.normal,put t56 6 (.int .i64 99),H1,n+35⟩)
 ((Zd .plain .eql v13 (.int .i64 9)).bind fun v57=>csel v57
 (some ⟨.normal,put (put (put t56 61 v57) 60 v57) 6 (.int .i64 1000000000),H1,n+37⟩)
 (some ⟨.ret,put (put (put t56 61 v57) 60 v57) 4 (.bool false),H1,n+37⟩))
 ).bind fun(o55:Out)=>some o55)
 ).bind fun(o48:Out)=>some o48)
 ).bind fun(o41:Out)=>some o41)
 ).bind fun(o30:Out)=>some o30)
 ).bind fun(o24:Out)=>some o24)
 ).bind fun(o21:Out)=>some o21)
 ).bind fun(o18:Out)=>some o18)
 ).bind fun(o15:Out)=>let o58:=outOf 0 o15
 Xe o58
 ((Za 1 (o58.t 2)).bind fun v59=>(ld false 1 v59 o58.H).bind fun v60=>(C 43 [v60,o58.t 5,o58.t 6] o58.H (o58.n+15)).bind fun q61=>(Zl q61.1 (gsel q61.1 true (o58.t 7) (.tuple #[])) (.bool false)).bind fun v62=>(Zl v62 (gsel v62 true (o58.t 8) (.tuple #[])) (.bool false)).bind fun v63=>(Zl v63 (gsel v63 true (o58.t 9) (.tuple #[])) (.bool false)).bind fun v64=>some (v64,q61.2.1,q61.2.2))
 (Vs o58.e
 (some (o58.t 4,o58.H,o58.n)))
theorem s77 (C:Zb)(L:Zc->Zc)(t:Tm)(H:Hp)(n:Nat):Zq Tryz.prog C L Tryz.f77 t H n=S77 C L t H n:=by kernel_rfl
theorem c77 (args:List Value)(H:Hp)(n:Nat):Call Tryz.prog 77 args H n=S77 (Call Tryz.prog) Zm (Zp args) H n:=(Zg Tryz.func77 args H n).trans (s77 ..)
noncomputable def S78 (C:Zb)(L:Zc->Zc)(t:Tm)(H:Hp)(n:Nat):Option (Value × Hp × Nat) :=
 (Zs (t 0)).bind fun c2=>let H1:=H.set (n) (some (.row c2 0 true))
 (Za 1 (ptr (n) 0)).bind fun v3=>(ld false 1 v3 H1).bind fun v4=>(Zo 4 v4 (t 1)).bind fun v5=>(ld true 4 v5 H1).bind fun v6=>let H7:=H1.set (n+7) (some (.row [.int .i64 0,.int .i64 0,.int .i64 0,.string ⟨#[]⟩] 0 true))
 (st true 4 (ptr (n+7) 0) v6 H7).bind fun H8=>(Za 1 (ptr (n) 0)).bind fun v9=>(ld false 1 v9 H8).bind fun v10=>(Zx false v10).bind fun v11=>(Za 0 (ptr (n+7) 0)).bind fun v12=>(ld false 1 v12 H8).bind fun v13=>(Xf [.int .i64 0,.int .i64 0,.int .i64 0,.string ⟨#[]⟩] [(0,1,v13)]).bind fun v14=>let H15:=H8.set (n+16) (some (.row [.int .i64 0,.int .i64 0,.int .i64 0,.string ⟨#[]⟩] 0 true))
 (st true 4 (ptr (n+16) 0) v14 H15).bind fun H16=>(Za 0 (ptr (n+7) 0)).bind fun v17=>(ld false 1 v17 H16).bind fun v18=>(Zd .plain .eql v18 (.int .i64 1)).bind fun v19=>csel v19
 ((Za 1 (ptr (n+7) 0)).bind fun v20=>(ld false 1 v20 H16).bind fun v21=>(Za 1 (ptr (n+16) 0)).bind fun v22=>(st false 1 v22 v21 H16).bind fun H23=>(ld true 4 (ptr (n+7) 0) H23).bind fun v24=>(ld true 4 (ptr (n+16) 0) H23).bind fun v25=>(Zd (.agg [(0,(.int .i64)),(1,(.int .i64)),(2,(.int .i64)),(3,.string)]) .eql v24 v25).bind fun v26=>let t28:Tm:=put (put (put (put (put (put (put (put (put (put (put (put (put (put (put (put (put (put (put (put (put (put (put (put (put (put (put t 2 (ptr (n) 0)) 4 (.bool false)) 8 v3) 9 v4) 10 (t 1)) 11 v5) 12 v6) 5 (ptr (n+7) 0)) 13 v9) 14 v10) 15 v11) 6 v11) 16 v12) 17 v13) 18 v14) 7 (ptr (n+16) 0)) 19 v17) 20 v18) 22 v19) 21 v19) 23 v20) 24 v21) 25 v22) 26 v24) 27 v25) 28 v26) 29 v26
 (gsel v26 true
 ((Za 0 (ptr (n) 0)).bind fun v29=>(ld true 1 v29 H23).bind fun v30=>(Za 1 (ptr (n+7) 0)).bind fun v31=>(ld false 1 v31 H23).bind fun v32=>(C 46 [v30,v32] H23 (n+37)).bind fun q33=>some (put (put (put (put (put t28 30 v29) 31 v30) 32 v31) 33 v32) 34 q33.1,q33.2.1,q33.2.2))
 (some (put (put (put (put (put t28 30 (.tuple #[])) 31 (.tuple #[])) 32 (.tuple #[])) 33 (.tuple #[])) 34 (.tuple #[]),H23,n+37))
 ).bind fun(q27:R3)=>(Zl (q27.1 29) (q27.1 34) (.bool false)).bind fun v34=>some (v34,q27.2.1,q27.2.2))
 ((Zd .plain .eql v18 (.int .i64 2)).bind fun v35=>csel v35
 ((Za 3 (ptr (n+7) 0)).bind fun v36=>(ld false 1 v36 H16).bind fun v37=>(Zd .plain .eql v37 (.string ⟨#[]⟩)).bind fun v38=>let t40:Tm:=put (put (put (put (put (put (put (put (put (put (put (put (put (put (put (put (put (put (put (put (put (put (put (put (put (put t 2 (ptr (n) 0)) 4 (.bool false)) 8 v3) 9 v4) 10 (t 1)) 11 v5) 12 v6) 5 (ptr (n+7) 0)) 13 v9) 14 v10) 15 v11) 6 v11) 16 v12) 17 v13) 18 v14) 7 (ptr (n+16) 0)) 19 v17) 20 v18) 22 v19) 21 v19) 37 v35) 36 v35) 38 v36) 39 v37) 40 v38) 41 v38
 (gsel v38 true
 ((Za 1 (ptr (n+7) 0)).bind fun v41=>(ld false 1 v41 H16).bind fun v42=>(C 47 [v42,.int .i64 0,.int .i64 20] H16 (n+38)).bind fun q43=>some (put (put (put t40 42 v41) 43 v42) 44 q43.1,q43.2.1,q43.2.2))
 (some (put (put (put t40 42 (.tuple #[])) 43 (.tuple #[])) 44 (.tuple #[]),H16,n+38))
 ).bind fun(q39:R3)=>(Zl (q39.1 41) (q39.1 44) (.bool false)).bind fun v44=>let t46:Tm:=put (put q39.1 45 v44) 46 v44
 (gsel v44 true
 ((Za 2 (t46 5)).bind fun v47=>(ld false 1 v47 q39.2.1).bind fun v48=>(C 47 [v48,.int .i64 0,.int .i64 3] q39.2.1 (q39.2.2)).bind fun q49=>some (put (put (put t46 47 v47) 48 v48) 49 q49.1,q49.2.1,q49.2.2))
 (some (put (put (put t46 47 (.tuple #[])) 48 (.tuple #[])) 49 (.tuple #[]),q39.2.1,q39.2.2))
 ).bind fun(q45:R3)=>(Zl (q45.1 46) (q45.1 49) (.bool false)).bind fun v50=>some (v50,q45.2.1,q45.2.2))
 ((Zd .plain .eql v18 (.int .i64 3)).bind fun v51=>csel v51
 ((Za 3 (ptr (n+7) 0)).bind fun v52=>(ld false 1 v52 H16).bind fun v53=>(Za 3 (ptr (n+16) 0)).bind fun v54=>(st false 1 v54 v53 H16).bind fun H55=>(ld true 4 (ptr (n+7) 0) H55).bind fun v56=>(ld true 4 (ptr (n+16) 0) H55).bind fun v57=>(Zd (.agg [(0,(.int .i64)),(1,(.int .i64)),(2,(.int .i64)),(3,.string)]) .eql v56 v57).bind fun v58=>let t60:Tm:=put (put (put (put (put (put (put (put (put (put (put (put (put (put (put (put (put (put (put (put (put (put (put (put (put (put (put (put (put (put (put t 2 (ptr (n) 0)) 4 (.bool false)) 8 v3) 9 v4) 10 (t 1)) 11 v5) 12 v6) 5 (ptr (n+7) 0)) 13 v9) 14 v10) 15 v11) 6 v11) 16 v12) 17 v13) 18 v14) 7 (ptr (n+16) 0)) 19 v17) 20 v18) 22 v19) 21 v19) 37 v35) 36 v35) 52 v51) 51 v51) 53 v52) 54 v53) 55 v54) 56 v56) 57 v57) 58 v58) 59 v58
 (gsel v58 true
 ((Za 3 (ptr (n+7) 0)).bind fun v61=>(ld false 1 v61 H55).bind fun v62=>(C 79 [v62] H55 (n+39)).bind fun q63=>some (put (put (put t60 60 v61) 61 v62) 62 q63.1,q63.2.1,q63.2.2))
 (some (put (put (put t60 60 (.tuple #[])) 61 (.tuple #[])) 62 (.tuple #[]),H55,n+39))
 ).bind fun(q59:R3)=>(Zl (q59.1 59) (q59.1 62) (.bool false)).bind fun v64=>some (v64,q59.2.1,q59.2.2))
 ((Zd .plain .eql v18 (.int .i64 4)).bind fun v65=>let t67:Tm:=put (put (put (put (put (put (put (put (put (put (put (put (put (put (put (put (put (put (put (put (put (put (put (put (put (put t 2 (ptr (n) 0)) 4 (.bool false)) 8 v3) 9 v4) 10 (t 1)) 11 v5) 12 v6) 5 (ptr (n+7) 0)) 13 v9) 14 v10) 15 v11) 6 v11) 16 v12) 17 v13) 18 v14) 7 (ptr (n+16) 0)) 19 v17) 20 v18) 22 v19) 21 v19) 37 v35) 36 v35) 52 v51) 51 v51) 65 v65) 64 v65
 (csel v65
 (some ⟨.normal,t67,H16,n+28⟩)
 ((Zd .plain .eql v18 (.int .i64 5)).bind fun v68=>some ⟨.normal,put (put t67 66 v68) 64 v68,H16,n+30⟩)
 ).bind fun(o66:Out)=>csel (o66.t 64)
 ((Za 1 (o66.t 5)).bind fun v69=>(ld false 1 v69 o66.H).bind fun v70=>(Za 1 (o66.t 7)).bind fun v71=>(st false 1 v71 v70 o66.H).bind fun H72=>(ld true 4 (o66.t 5) H72).bind fun v73=>(ld true 4 (o66.t 7) H72).bind fun v74=>(Zd (.agg [(0,(.int .i64)),(1,(.int .i64)),(2,(.int .i64)),(3,.string)]) .eql v73 v74).bind fun v75=>let t77:Tm:=put (put (put (put (put (put (put o66.t 67 v69) 68 v70) 69 v71) 70 v73) 71 v74) 72 v75) 73 v75
 (gsel v75 true
 ((Za 1 (t77 5)).bind fun v78=>(ld false 1 v78 H72).bind fun v79=>(Zd .plain .gtr v79 (t77 1)).bind fun v80=>some (put (put (put (put t77 74 v78) 75 v79) 76 (t77 1)) 77 v80,H72,o66.n+20))
 (some (put (put (put (put t77 74 (.tuple #[])) 75 (.tuple #[])) 76 (.tuple #[])) 77 (.tuple #[]),H72,o66.n+20))
 ).bind fun(q76:R3)=>(Zl (q76.1 73) (q76.1 77) (.bool false)).bind fun v81=>let t83:Tm:=put (put q76.1 78 v81) 79 v81
 (gsel v81 true
 ((Za 1 (t83 5)).bind fun v84=>(ld false 1 v84 q76.2.1).bind fun v85=>(Zd .plain .leq v85 (t83 6)).bind fun v86=>some (put (put (put (put t83 80 v84) 81 v85) 82 (t83 6)) 83 v86,q76.2.1,q76.2.2))
 (some (put (put (put (put t83 80 (.tuple #[])) 81 (.tuple #[])) 82 (.tuple #[])) 83 (.tuple #[]),q76.2.1,q76.2.2))
 ).bind fun(q82:R3)=>(Zl (q82.1 79) (q82.1 83) (.bool false)).bind fun v87=>some (v87,q82.2.1,q82.2.2))
 ((Zd .plain .eql (o66.t 20) (.int .i64 6)).bind fun v88=>csel v88
 ((Za 3 (o66.t 5)).bind fun v89=>(ld false 1 v89 o66.H).bind fun v90=>(Zd .plain .eql v90 (.string ⟨#[]⟩)).bind fun v91=>let t93:Tm:=put (put (put (put (put (put o66.t 86 v88) 85 v88) 87 v89) 88 v90) 89 v91) 90 v91
 (gsel v91 true
 ((Za 1 (t93 5)).bind fun v94=>(ld false 1 v94 o66.H).bind fun v95=>(Zd .plain .gtr v95 (t93 1)).bind fun v96=>some (put (put (put (put t93 91 v94) 92 v95) 93 (t93 1)) 94 v96,o66.H,o66.n+23))
 (some (put (put (put (put t93 91 (.tuple #[])) 92 (.tuple #[])) 93 (.tuple #[])) 94 (.tuple #[]),o66.H,o66.n+23))
 ).bind fun(q92:R3)=>(Zl (q92.1 90) (q92.1 94) (.bool false)).bind fun v97=>let t99:Tm:=put (put q92.1 95 v97) 96 v97
 (gsel v97 true
 ((Za 1 (t99 5)).bind fun v100=>(ld false 1 v100 q92.2.1).bind fun v101=>(Zd .plain .lss v101 (t99 6)).bind fun v102=>some (put (put (put (put t99 97 v100) 98 v101) 99 (t99 6)) 100 v102,q92.2.1,q92.2.2))
 (some (put (put (put (put t99 97 (.tuple #[])) 98 (.tuple #[])) 99 (.tuple #[])) 100 (.tuple #[]),q92.2.1,q92.2.2))
 ).bind fun(q98:R3)=>(Zl (q98.1 96) (q98.1 100) (.bool false)).bind fun v103=>let t105:Tm:=put (put q98.1 101 v103) 102 v103
 (gsel v103 true
 ((Za 2 (t105 5)).bind fun v106=>(ld false 1 v106 q98.2.1).bind fun v107=>(C 47 [v107,.int .i64 0,.int .i64 4] q98.2.1 (q98.2.2)).bind fun q108=>some (put (put (put t105 103 v106) 104 v107) 105 q108.1,q108.2.1,q108.2.2))
 (some (put (put (put t105 103 (.tuple #[])) 104 (.tuple #[])) 105 (.tuple #[]),q98.2.1,q98.2.2))
 ).bind fun(q104:R3)=>(Zl (q104.1 102) (q104.1 105) (.bool false)).bind fun v109=>some (v109,q104.2.1,q104.2.2))
 ((Zd .plain .eql (o66.t 20) (.int .i64 7)).bind fun v110=>csel v110
 ((Za 2 (o66.t 5)).bind fun v111=>(ld false 1 v111 o66.H).bind fun v112=>(Za 2 (o66.t 7)).bind fun v113=>(st false 1 v113 v112 o66.H).bind fun H114=>(ld true 4 (o66.t 5) H114).bind fun v115=>(ld true 4 (o66.t 7) H114).bind fun v116=>(Zd (.agg [(0,(.int .i64)),(1,(.int .i64)),(2,(.int .i64)),(3,.string)]) .eql v115 v116).bind fun v117=>let t119:Tm:=put (put (put (put (put (put (put (put (put (put (put o66.t 86 v88) 85 v88) 108 v110) 107 v110) 109 v111) 110 v112) 111 v113) 112 v115) 113 v116) 114 v117) 115 v117
 (gsel v117 true
 ((Za 2 (t119 5)).bind fun v120=>(ld false 1 v120 H114).bind fun v121=>(C 47 [v121,.int .i64 0,.int .i64 4] H114 (o66.n+17)).bind fun q122=>some (put (put (put t119 116 v120) 117 v121) 118 q122.1,q122.2.1,q122.2.2))
 (some (put (put (put t119 116 (.tuple #[])) 117 (.tuple #[])) 118 (.tuple #[]),H114,o66.n+17))
 ).bind fun(q118:R3)=>(Zl (q118.1 115) (q118.1 118) (.bool false)).bind fun v123=>some (v123,q118.2.1,q118.2.2))
 ((Zd .plain .eql (o66.t 20) (.int .i64 8)).bind fun v124=>let t126:Tm:=put (put (put (put (put (put o66.t 86 v88) 85 v88) 108 v110) 107 v110) 121 v124) 120 v124
 (csel v124
 (some ⟨.normal,t126,o66.H,o66.n+6⟩)
 ((Zd .plain .eql (t126 20) (.int .i64 9)).bind fun v127=>some ⟨.normal,put (put t126 122 v127) 120 v127,o66.H,o66.n+8⟩)
 ).bind fun(o125:Out)=>csel (o125.t 120)
 ((ld true 4 (o125.t 5) o125.H).bind fun v128=>(ld true 4 (o125.t 7) o125.H).bind fun v129=>(Zd (.agg [(0,(.int .i64)),(1,(.int .i64)),(2,(.int .i64)),(3,.string)]) .eql v128 v129).bind fun v130=>some (v130,o125.H,o125.n+4))
 (some (.bool false,o125.H,o125.n+1))))))))
theorem s78 (C:Zb)(L:Zc->Zc)(t:Tm)(H:Hp)(n:Nat):Zq Tryz.prog C L Tryz.f78 t H n=S78 C L t H n:=by kernel_rfl
theorem c78 (args:List Value)(H:Hp)(n:Nat):Call Tryz.prog 78 args H n=S78 (Call Tryz.prog) Zm (Zp args) H n:=(Zg Tryz.func78 args H n).trans (s78 ..)
noncomputable def S79L0 (C:Zb)(L:Zc->Zc):Zc:=fun t H n=>(Zx true (t 0)).bind fun v2=>(Zd .plain .lss (t 3) v2).bind fun v3=>csel v3
 ((idxS (t 0) (t 3)).bind fun v4=>(C 116 [v4] H (n+9)).bind fun q5=>(un .not q5.1).bind fun v6=>csel v6
 (some ⟨.ret,put (put (put (put (put (put (put (put (put (put t 4 (t 3)) 5 (t 0)) 6 v2) 7 v3) 10 (t 0)) 11 (t 3)) 12 v4) 13 q5.1) 14 v6) 2 (.bool false),q5.2.1,q5.2.2+1⟩)
 ((Zd .plain .add (t 3) (.int .i64 1)).bind fun v7=>some ⟨.normal,put (put (put (put (put (put (put (put (put (put (put (put t 4 (t 3)) 5 (t 0)) 6 v2) 7 v3) 10 (t 0)) 11 (t 3)) 12 v4) 13 q5.1) 14 v6) 8 (t 3)) 9 v7) 3 v7,q5.2.1,q5.2.2+3⟩))
 (some ⟨(.exit 0),put (put (put (put t 4 (t 3)) 5 (t 0)) 6 v2) 7 v3,H,n+4⟩)
noncomputable def S79 (C:Zb)(L:Zc->Zc)(t:Tm)(H:Hp)(n:Nat):Option (Value × Hp × Nat) :=
 (L (S79L0 C L) (put (put t 2 (.bool false)) 3 (.int .i64 0)) H (n+2)).bind fun(o1:Out)=>let o8:=outOf 0 o1
 Xe o8
 ((Zx true (o8.t 0)).bind fun v9=>(C 47 [v9,.int .i64 1,.int .i64 12] o8.H (o8.n+4)).bind fun q10=>some (q10.1,q10.2.1,q10.2.2))
 (Vs o8.e
 (some (o8.t 2,o8.H,o8.n)))
theorem s79 (C:Zb)(L:Zc->Zc)(t:Tm)(H:Hp)(n:Nat):Zq Tryz.prog C L Tryz.f79 t H n=S79 C L t H n:=by kernel_rfl
theorem c79 (args:List Value)(H:Hp)(n:Nat):Call Tryz.prog 79 args H n=S79 (Call Tryz.prog) Zm (Zp args) H n:=(Zg Tryz.func79 args H n).trans (s79 ..)
noncomputable def S80L0 (C:Zb)(L:Zc->Zc):Zc:=fun t H n=>(Za 2 (t 2)).bind fun v4=>(ld false 1 v4 H).bind fun v5=>(Zx false v5).bind fun v6=>(Zd .plain .lss (t 5) v6).bind fun v7=>csel v7
 ((Za 2 (t 2)).bind fun v8=>(ld false 1 v8 H).bind fun v9=>(Zo 3 v9 (t 5)).bind fun v10=>(Za 0 v10).bind fun v11=>(ld false 1 v11 H).bind fun v12=>(Zd .plain .eql v12 (t 1)).bind fun v13=>csel v13
 (some ⟨.ret,put (put (put (put (put (put (put (put (put (put (put (put (put (put (put t 6 (t 5)) 7 v4) 8 v5) 9 v6) 10 v7) 13 v8) 14 v9) 15 (t 5)) 16 v10) 17 v11) 18 v12) 19 (t 1)) 20 v13) 21 (t 5)) 4 (t 5),H,n+15⟩)
 ((Zd .plain .add (t 5) (.int .i64 1)).bind fun v14=>some ⟨.normal,put (put (put (put (put (put (put (put (put (put (put (put (put (put (put (put t 6 (t 5)) 7 v4) 8 v5) 9 v6) 10 v7) 13 v8) 14 v9) 15 (t 5)) 16 v10) 17 v11) 18 v12) 19 (t 1)) 20 v13) 11 (t 5)) 12 v14) 5 v14,H,n+16⟩))
 (some ⟨(.exit 0),put (put (put (put (put t 6 (t 5)) 7 v4) 8 v5) 9 v6) 10 v7,H,n+5⟩)
noncomputable def S80 (C:Zb)(L:Zc->Zc)(t:Tm)(H:Hp)(n:Nat):Option (Value × Hp × Nat) :=
 (Zs (t 0)).bind fun c2=>let H1:=H.set (n) (some (.row c2 0 true))
 (L (S80L0 C L) (put (put (put t 2 (ptr (n) 0)) 4 (.int .i64 0)) 5 (.int .i64 0)) H1 (n+3)).bind fun(o3:Out)=>let o15:=outOf 0 o3
 Xe o15
 (some (.int .i64 (-1),o15.H,o15.n+1))
 (Vs o15.e
 (some (o15.t 4,o15.H,o15.n)))
theorem s80 (C:Zb)(L:Zc->Zc)(t:Tm)(H:Hp)(n:Nat):Zq Tryz.prog C L Tryz.f80 t H n=S80 C L t H n:=by kernel_rfl
theorem c80 (args:List Value)(H:Hp)(n:Nat):Call Tryz.prog 80 args H n=S80 (Call Tryz.prog) Zm (Zp args) H n:=(Zg Tryz.func80 args H n).trans (s80 ..)
noncomputable def S81 (C:Zb)(L:Zc->Zc)(t:Tm)(H:Hp)(n:Nat):Option (Value × Hp × Nat) :=
 (Zs (t 0)).bind fun c2=>let H1:=H.set (n) (some (.row c2 0 true))
 (Za 3 (ptr (n) 0)).bind fun v3=>(ld false 1 v3 H1).bind fun v4=>(Zd .plain .sub (t 1) (.int .i64 1)).bind fun v5=>(C 47 [v4,.int .i64 0,v5] H1 (n+8)).bind fun q6=>(Za 4 (ptr (n) 0)).bind fun v7=>(ld false 1 v7 q6.2.1).bind fun v8=>(Zd .plain .sub (t 1) (.int .i64 1)).bind fun v9=>(C 47 [v8,.int .i64 0,v9] q6.2.1 (q6.2.2+6)).bind fun q10=>(Za 0 (ptr (n) 0)).bind fun v11=>(ld false 1 v11 q10.2.1).bind fun v12=>(Zd .plain .eql v12 (.int .i64 1)).bind fun v13=>csel v13
 ((ld true 5 (ptr (n) 0) q10.2.1).bind fun v14=>(Xf [.int .i64 0,.int .i64 0,.string ⟨#[]⟩,.int .i64 0,.int .i64 0] [(0,1,.int .i64 1)]).bind fun v15=>(Zd (.agg [(0,(.int .i64)),(1,(.int .i64)),(2,.string),(3,(.int .i64)),(4,(.int .i64))]) .eql v14 v15).bind fun v16=>some (v16,q10.2.1,q10.2.2+8))
 ((Zd .plain .eql v12 (.int .i64 2)).bind fun v17=>csel v17
 ((Za 1 (ptr (n) 0)).bind fun v18=>(ld false 1 v18 q10.2.1).bind fun v19=>(C 47 [v19,.int .i64 0,.int .i64 1] q10.2.1 (q10.2.2+17)).bind fun q20=>let t22:Tm:=put (put (put (put (put (put (put (put (put (put (put (put (put (put (put (put (put (put (put (put (put (put (put (put t 2 (ptr (n) 0)) 4 (.bool false)) 7 v3) 8 v4) 9 (t 1)) 10 v5) 11 q6.1) 5 q6.1) 12 v7) 13 v8) 14 (t 1)) 15 v9) 16 q10.1) 6 q10.1) 17 v11) 18 v12) 20 v13) 19 v13) 25 v17) 24 v17) 26 v18) 27 v19) 28 q20.1) 29 q20.1
 (gsel q20.1 true
 ((ld true 5 (ptr (n) 0) q20.2.1).bind fun v23=>(Za 1 (ptr (n) 0)).bind fun v24=>(ld false 1 v24 q20.2.1).bind fun v25=>(Xf [.int .i64 0,.int .i64 0,.string ⟨#[]⟩,.int .i64 0,.int .i64 0] [(0,1,.int .i64 2),(1,1,v25)]).bind fun v26=>(Zd (.agg [(0,(.int .i64)),(1,(.int .i64)),(2,.string),(3,(.int .i64)),(4,(.int .i64))]) .eql v23 v26).bind fun v27=>some (put (put (put (put (put t22 30 v23) 31 v24) 32 v25) 33 v26) 34 v27,q20.2.1,q20.2.2))
 (some (put (put (put (put (put t22 30 (.tuple #[])) 31 (.tuple #[])) 32 (.tuple #[])) 33 (.tuple #[])) 34 (.tuple #[]),q20.2.1,q20.2.2))
 ).bind fun(q21:R3)=>(Zl (q21.1 29) (q21.1 34) (.bool false)).bind fun v28=>some (v28,q21.2.1,q21.2.2))
 ((Zd .plain .eql v12 (.int .i64 3)).bind fun v29=>csel v29
 ((Za 1 (ptr (n) 0)).bind fun v30=>(ld false 1 v30 q10.2.1).bind fun v31=>(C 47 [v31,.int .i64 (-1000000000),.int .i64 1000000000] q10.2.1 (q10.2.2+19)).bind fun q32=>let t34:Tm:=put (put (put (put (put (put (put (put (put (put (put (put (put (put (put (put (put (put (put (put (put (put (put (put (put (put t 2 (ptr (n) 0)) 4 (.bool false)) 7 v3) 8 v4) 9 (t 1)) 10 v5) 11 q6.1) 5 q6.1) 12 v7) 13 v8) 14 (t 1)) 15 v9) 16 q10.1) 6 q10.1) 17 v11) 18 v12) 20 v13) 19 v13) 25 v17) 24 v17) 37 v29) 36 v29) 38 v30) 39 v31) 40 q32.1) 41 q32.1
 (gsel q32.1 true
 ((ld true 5 (ptr (n) 0) q32.2.1).bind fun v35=>(Za 1 (ptr (n) 0)).bind fun v36=>(ld false 1 v36 q32.2.1).bind fun v37=>(Xf [.int .i64 0,.int .i64 0,.string ⟨#[]⟩,.int .i64 0,.int .i64 0] [(0,1,.int .i64 3),(1,1,v37)]).bind fun v38=>(Zd (.agg [(0,(.int .i64)),(1,(.int .i64)),(2,.string),(3,(.int .i64)),(4,(.int .i64))]) .eql v35 v38).bind fun v39=>some (put (put (put (put (put t34 42 v35) 43 v36) 44 v37) 45 v38) 46 v39,q32.2.1,q32.2.2))
 (some (put (put (put (put (put t34 42 (.tuple #[])) 43 (.tuple #[])) 44 (.tuple #[])) 45 (.tuple #[])) 46 (.tuple #[]),q32.2.1,q32.2.2))
 ).bind fun(q33:R3)=>(Zl (q33.1 41) (q33.1 46) (.bool false)).bind fun v40=>some (v40,q33.2.1,q33.2.2))
 ((Zd .plain .eql v12 (.int .i64 4)).bind fun v41=>csel v41
 ((Za 2 (ptr (n) 0)).bind fun v42=>(ld false 1 v42 q10.2.1).bind fun v43=>(C 79 [v43] q10.2.1 (q10.2.2+21)).bind fun q44=>let t46:Tm:=put (put (put (put (put (put (put (put (put (put (put (put (put (put (put (put (put (put (put (put (put (put (put (put (put (put (put (put t 2 (ptr (n) 0)) 4 (.bool false)) 7 v3) 8 v4) 9 (t 1)) 10 v5) 11 q6.1) 5 q6.1) 12 v7) 13 v8) 14 (t 1)) 15 v9) 16 q10.1) 6 q10.1) 17 v11) 18 v12) 20 v13) 19 v13) 25 v17) 24 v17) 37 v29) 36 v29) 49 v41) 48 v41) 50 v42) 51 v43) 52 q44.1) 53 q44.1
 (gsel q44.1 true
 ((ld true 5 (ptr (n) 0) q44.2.1).bind fun v47=>(Za 2 (ptr (n) 0)).bind fun v48=>(ld false 1 v48 q44.2.1).bind fun v49=>(Xf [.int .i64 0,.int .i64 0,.string ⟨#[]⟩,.int .i64 0,.int .i64 0] [(0,1,.int .i64 4),(2,1,v49)]).bind fun v50=>(Zd (.agg [(0,(.int .i64)),(1,(.int .i64)),(2,.string),(3,(.int .i64)),(4,(.int .i64))]) .eql v47 v50).bind fun v51=>some (put (put (put (put (put t46 54 v47) 55 v48) 56 v49) 57 v50) 58 v51,q44.2.1,q44.2.2))
 (some (put (put (put (put (put t46 54 (.tuple #[])) 55 (.tuple #[])) 56 (.tuple #[])) 57 (.tuple #[])) 58 (.tuple #[]),q44.2.1,q44.2.2))
 ).bind fun(q45:R3)=>(Zl (q45.1 53) (q45.1 58) (.bool false)).bind fun v52=>some (v52,q45.2.1,q45.2.2))
 ((Zd .plain .eql v12 (.int .i64 5)).bind fun v53=>csel v53
 ((Zl q6.1 (gsel q6.1 true q10.1 (.tuple #[])) (.bool false)).bind fun v54=>let t56:Tm:=put (put (put (put (put (put (put (put (put (put (put (put (put (put (put (put (put (put (put (put (put (put (put (put (put (put (put (put (put (put (put t 2 (ptr (n) 0)) 4 (.bool false)) 7 v3) 8 v4) 9 (t 1)) 10 v5) 11 q6.1) 5 q6.1) 12 v7) 13 v8) 14 (t 1)) 15 v9) 16 q10.1) 6 q10.1) 17 v11) 18 v12) 20 v13) 19 v13) 25 v17) 24 v17) 37 v29) 36 v29) 49 v41) 48 v41) 61 v53) 60 v53) 62 q6.1) 63 q6.1) 64 (gsel q6.1 true q10.1 (.tuple #[]))) 65 v54) 66 v54
 (gsel v54 true
 ((Za 1 (ptr (n) 0)).bind fun v57=>(ld false 1 v57 q10.2.1).bind fun v58=>(Zd .plain .eql v58 (.int .i64 0)).bind fun v59=>some (put (put (put t56 67 v57) 68 v58) 69 v59,q10.2.1,q10.2.2+27))
 (some (put (put (put t56 67 (.tuple #[])) 68 (.tuple #[])) 69 (.tuple #[]),q10.2.1,q10.2.2+27))
 ).bind fun(q55:R3)=>(Zl (q55.1 66) (q55.1 69) (.bool false)).bind fun v60=>let t62:Tm:=put (put q55.1 70 v60) 71 v60
 (gsel v60 true
 ((Za 2 (t62 2)).bind fun v63=>(ld false 1 v63 q55.2.1).bind fun v64=>(Zd .plain .eql v64 (.string ⟨#[]⟩)).bind fun v65=>some (put (put (put t62 72 v63) 73 v64) 74 v65,q55.2.1,q55.2.2))
 (some (put (put (put t62 72 (.tuple #[])) 73 (.tuple #[])) 74 (.tuple #[]),q55.2.1,q55.2.2))
 ).bind fun(q61:R3)=>(Zl (q61.1 71) (q61.1 74) (.bool false)).bind fun v66=>some (v66,q61.2.1,q61.2.2))
 ((Zd .plain .eql v12 (.int .i64 6)).bind fun v67=>csel v67
 (let t69:Tm:=put (put (put (put (put (put (put (put (put (put (put (put (put (put (put (put (put (put (put (put (put (put (put (put (put (put (put (put (put (put t 2 (ptr (n) 0)) 4 (.bool false)) 7 v3) 8 v4) 9 (t 1)) 10 v5) 11 q6.1) 5 q6.1) 12 v7) 13 v8) 14 (t 1)) 15 v9) 16 q10.1) 6 q10.1) 17 v11) 18 v12) 20 v13) 19 v13) 25 v17) 24 v17) 37 v29) 36 v29) 49 v41) 48 v41) 61 v53) 60 v53) 77 v67) 76 v67) 78 q6.1) 79 q6.1
 (gsel q6.1 true
 ((Za 1 (ptr (n) 0)).bind fun v70=>(ld false 1 v70 q10.2.1).bind fun v71=>(C 47 [v71,.int .i64 0,.int .i64 1000000000] q10.2.1 (q10.2.2+31)).bind fun q72=>some (put (put (put t69 80 v70) 81 v71) 82 q72.1,q72.2.1,q72.2.2))
 (some (put (put (put t69 80 (.tuple #[])) 81 (.tuple #[])) 82 (.tuple #[]),q10.2.1,q10.2.2+31))
 ).bind fun(q68:R3)=>(Zl (q68.1 79) (q68.1 82) (.bool false)).bind fun v73=>let t75:Tm:=put (put q68.1 83 v73) 84 v73
 (gsel v73 true
 ((Za 4 (t75 2)).bind fun v76=>(ld false 1 v76 q68.2.1).bind fun v77=>(Zd .plain .eql v77 (.int .i64 0)).bind fun v78=>some (put (put (put t75 85 v76) 86 v77) 87 v78,q68.2.1,q68.2.2))
 (some (put (put (put t75 85 (.tuple #[])) 86 (.tuple #[])) 87 (.tuple #[]),q68.2.1,q68.2.2))
 ).bind fun(q74:R3)=>(Zl (q74.1 84) (q74.1 87) (.bool false)).bind fun v79=>let t81:Tm:=put (put q74.1 88 v79) 89 v79
 (gsel v79 true
 ((Za 2 (t81 2)).bind fun v82=>(ld false 1 v82 q74.2.1).bind fun v83=>(Zd .plain .eql v83 (.string ⟨#[]⟩)).bind fun v84=>some (put (put (put t81 90 v82) 91 v83) 92 v84,q74.2.1,q74.2.2))
 (some (put (put (put t81 90 (.tuple #[])) 91 (.tuple #[])) 92 (.tuple #[]),q74.2.1,q74.2.2))
 ).bind fun(q80:R3)=>(Zl (q80.1 89) (q80.1 92) (.bool false)).bind fun v85=>some (v85,q80.2.1,q80.2.2))
 ((Zd .plain .eql v12 (.int .i64 7)).bind fun v86=>csel v86
 (let t88:Tm:=put (put (put (put (put (put (put (put (put (put (put (put (put (put (put (put (put (put (put (put (put (put (put (put (put (put (put (put (put (put (put (put t 2 (ptr (n) 0)) 4 (.bool false)) 7 v3) 8 v4) 9 (t 1)) 10 v5) 11 q6.1) 5 q6.1) 12 v7) 13 v8) 14 (t 1)) 15 v9) 16 q10.1) 6 q10.1) 17 v11) 18 v12) 20 v13) 19 v13) 25 v17) 24 v17) 37 v29) 36 v29) 49 v41) 48 v41) 61 v53) 60 v53) 77 v67) 76 v67) 95 v86) 94 v86) 96 q6.1) 97 q6.1
 (gsel q6.1 true
 ((Za 1 (ptr (n) 0)).bind fun v89=>(ld false 1 v89 q10.2.1).bind fun v90=>(Zd .plain .eql v90 (.int .i64 0)).bind fun v91=>some (put (put (put t88 98 v89) 99 v90) 100 v91,q10.2.1,q10.2.2+33))
 (some (put (put (put t88 98 (.tuple #[])) 99 (.tuple #[])) 100 (.tuple #[]),q10.2.1,q10.2.2+33))
 ).bind fun(q87:R3)=>(Zl (q87.1 97) (q87.1 100) (.bool false)).bind fun v92=>let t94:Tm:=put (put q87.1 101 v92) 102 v92
 (gsel v92 true
 ((Za 4 (t94 2)).bind fun v95=>(ld false 1 v95 q87.2.1).bind fun v96=>(Zd .plain .eql v96 (.int .i64 0)).bind fun v97=>some (put (put (put t94 103 v95) 104 v96) 105 v97,q87.2.1,q87.2.2))
 (some (put (put (put t94 103 (.tuple #[])) 104 (.tuple #[])) 105 (.tuple #[]),q87.2.1,q87.2.2))
 ).bind fun(q93:R3)=>(Zl (q93.1 102) (q93.1 105) (.bool false)).bind fun v98=>let t100:Tm:=put (put q93.1 106 v98) 107 v98
 (gsel v98 true
 ((Za 2 (t100 2)).bind fun v101=>(ld false 1 v101 q93.2.1).bind fun v102=>(Zd .plain .eql v102 (.string ⟨#[]⟩)).bind fun v103=>some (put (put (put t100 108 v101) 109 v102) 110 v103,q93.2.1,q93.2.2))
 (some (put (put (put t100 108 (.tuple #[])) 109 (.tuple #[])) 110 (.tuple #[]),q93.2.1,q93.2.2))
 ).bind fun(q99:R3)=>(Zl (q99.1 107) (q99.1 110) (.bool false)).bind fun v104=>some (v104,q99.2.1,q99.2.2))
 ((Zd .plain .eql v12 (.int .i64 8)).bind fun v105=>csel v105
 ((Za 1 (ptr (n) 0)).bind fun v106=>(ld false 1 v106 q10.2.1).bind fun v107=>(C 47 [v107,.int .i64 0,.int .i64 99] q10.2.1 (q10.2.2+29)).bind fun q108=>let t110:Tm:=put (put (put (put (put (put (put (put (put (put (put (put (put (put (put (put (put (put (put (put (put (put (put (put (put (put (put (put (put (put (put (put (put (put (put (put t 2 (ptr (n) 0)) 4 (.bool false)) 7 v3) 8 v4) 9 (t 1)) 10 v5) 11 q6.1) 5 q6.1) 12 v7) 13 v8) 14 (t 1)) 15 v9) 16 q10.1) 6 q10.1) 17 v11) 18 v12) 20 v13) 19 v13) 25 v17) 24 v17) 37 v29) 36 v29) 49 v41) 48 v41) 61 v53) 60 v53) 77 v67) 76 v67) 95 v86) 94 v86) 113 v105) 112 v105) 114 v106) 115 v107) 116 q108.1) 117 q108.1
 (gsel q108.1 true
 ((ld true 5 (ptr (n) 0) q108.2.1).bind fun v111=>(Za 1 (ptr (n) 0)).bind fun v112=>(ld false 1 v112 q108.2.1).bind fun v113=>(Xf [.int .i64 0,.int .i64 0,.string ⟨#[]⟩,.int .i64 0,.int .i64 0] [(0,1,.int .i64 8),(1,1,v113)]).bind fun v114=>(Zd (.agg [(0,(.int .i64)),(1,(.int .i64)),(2,.string),(3,(.int .i64)),(4,(.int .i64))]) .eql v111 v114).bind fun v115=>some (put (put (put (put (put t110 118 v111) 119 v112) 120 v113) 121 v114) 122 v115,q108.2.1,q108.2.2))
 (some (put (put (put (put (put t110 118 (.tuple #[])) 119 (.tuple #[])) 120 (.tuple #[])) 121 (.tuple #[])) 122 (.tuple #[]),q108.2.1,q108.2.2))
 ).bind fun(q109:R3)=>(Zl (q109.1 117) (q109.1 122) (.bool false)).bind fun v116=>some (v116,q109.2.1,q109.2.2))
 ((Zd .plain .eql v12 (.int .i64 9)).bind fun v117=>csel v117
 ((Za 1 (ptr (n) 0)).bind fun v118=>(ld false 1 v118 q10.2.1).bind fun v119=>(C 47 [v119,.int .i64 0,.int .i64 1000000000] q10.2.1 (q10.2.2+31)).bind fun q120=>let t122:Tm:=put (put (put (put (put (put (put (put (put (put (put (put (put (put (put (put (put (put (put (put (put (put (put (put (put (put (put (put (put (put (put (put (put (put (put (put (put (put t 2 (ptr (n) 0)) 4 (.bool false)) 7 v3) 8 v4) 9 (t 1)) 10 v5) 11 q6.1) 5 q6.1) 12 v7) 13 v8) 14 (t 1)) 15 v9) 16 q10.1) 6 q10.1) 17 v11) 18 v12) 20 v13) 19 v13) 25 v17) 24 v17) 37 v29) 36 v29) 49 v41) 48 v41) 61 v53) 60 v53) 77 v67) 76 v67) 95 v86) 94 v86) 113 v105) 112 v105) 125 v117) 124 v117) 126 v118) 127 v119) 128 q120.1) 129 q120.1
 (gsel q120.1 true
 ((ld true 5 (ptr (n) 0) q120.2.1).bind fun v123=>(Za 1 (ptr (n) 0)).bind fun v124=>(ld false 1 v124 q120.2.1).bind fun v125=>(Xf [.int .i64 0,.int .i64 0,.string ⟨#[]⟩,.int .i64 0,.int .i64 0] [(0,1,.int .i64 9),(1,1,v125)]).bind fun v126=>(Zd (.agg [(0,(.int .i64)),(1,(.int .i64)),(2,.string),(3,(.int .i64)),(4,(.int .i64))]) .eql v123 v126).bind fun v127=>some (put (put (put (put (put t122 130 v123) 131 v124) 132 v125) 133 v126) 134 v127,q120.2.1,q120.2.2))
 (some (put (put (put (put (put t122 130 (.tuple #[])) 131 (.tuple #[])) 132 (.tuple #[])) 133 (.tuple #[])) 134 (.tuple #[]),q120.2.1,q120.2.2))
 ).bind fun(q121:R3)=>(Zl (q121.1 129) (q121.1 134) (.bool false)).bind fun v128=>some (v128,q121.2.1,q121.2.2))
 (some (.bool false,q10.2.1,q10.2.2+21))))))))))
theorem s81 (C:Zb)(L:Zc->Zc)(t:Tm)(H:Hp)(n:Nat):Zq Tryz.prog C L Tryz.f81 t H n=S81 C L t H n:=by kernel_rfl
theorem c81 (args:List Value)(H:Hp)(n:Nat):Call Tryz.prog 81 args H n=S81 (Call Tryz.prog) Zm (Zp args) H n:=(Zg Tryz.func81 args H n).trans (s81 ..)
noncomputable def S83 (C:Zb)(L:Zc->Zc)(t:Tm)(H:Hp)(n:Nat):Option (Value × Hp × Nat) :=
 (Zh (t 0)).bind fun v1=>(Za 0 v1).bind fun v2=>(Zh (t 0)).bind fun v3=>(Za 2 v3).bind fun v4=>(ld false 1 v4 H).bind fun v5=>(Xf [.int .i64 0,.int .i64 0,.string ⟨#[]⟩,.int .i64 0,.int .i64 0] [(0,1,.int .i64 5),(3,1,t 1),(4,1,v5)]).bind fun v6=>(C 88 [v2,v6] H (n+14)).bind fun q7=>(Zh (t 0)).bind fun v8=>(Za 2 v8).bind fun v9=>(st false 1 v9 q7.1 q7.2.1).bind fun H10=>some (.tuple ⟨[]⟩,H10,q7.2.2)
theorem s83 (C:Zb)(L:Zc->Zc)(t:Tm)(H:Hp)(n:Nat):Zq Tryz.prog C L Tryz.f83 t H n=S83 C L t H n:=by kernel_rfl
theorem c83 (args:List Value)(H:Hp)(n:Nat):Call Tryz.prog 83 args H n=S83 (Call Tryz.prog) Zm (Zp args) H n:=(Zg Tryz.func83 args H n).trans (s83 ..)
noncomputable def S84 (C:Zb)(L:Zc->Zc)(t:Tm)(H:Hp)(n:Nat):Option (Value × Hp × Nat) :=
 (Zs (t 1)).bind fun c2=>let H1:=H.set (n) (some (.row c2 0 true))
 (ld true 1 (ptr (n) 0) H1).bind fun v3=>(ld true 1 (ptr (n) 0) H1).bind fun v4=>(Xx (n+6) 1 1 [.int .i64 0] [(0,1,t 2)] H1).bind fun p5=>(C 118 [v4,p5.1] p5.2 (n+13)).bind fun q6=>ask (ld true 1 (ptr (n) 0) q6.2.1=some v3) <|(C 117 [t 0,v3,q6.1] q6.2.1 (q6.2.2)).bind fun q7=>(Zo 1 q7.1 (t 2)).bind fun v8=>(ld false 1 v8 q7.2.1).bind fun v9=>some (v9,q7.2.1,q7.2.2)
theorem s84 (C:Zb)(L:Zc->Zc)(t:Tm)(H:Hp)(n:Nat):Zq Tryz.prog C L Tryz.f84 t H n=S84 C L t H n:=by kernel_rfl
theorem c84 (args:List Value)(H:Hp)(n:Nat):Call Tryz.prog 84 args H n=S84 (Call Tryz.prog) Zm (Zp args) H n:=(Zg Tryz.func84 args H n).trans (s84 ..)
noncomputable def S85L0 (C:Zb)(L:Zc->Zc):Zc:=fun t H n=>(Zd .plain .gtr (t 2) (.int .i64 0)).bind fun v4=>let t6:Tm:=put (put (put t 8 (t 2)) 9 v4) 10 v4
 (gsel v4 true
 ((Za 0 (t6 3)).bind fun v7=>(ld false 1 v7 H).bind fun v8=>(Zo 5 v8 (t6 1)).bind fun v9=>(Za 0 v9).bind fun v10=>(ld false 1 v10 H).bind fun v11=>(Zd .plain .eql v11 (.int .i64 5)).bind fun v12=>some (put (put (put (put (put (put (put t6 11 v7) 12 v8) 13 (t6 1)) 14 v9) 15 v10) 16 v11) 17 v12,H,n+11))
 (some (put (put (put (put (put (put (put t6 11 (.tuple #[])) 12 (.tuple #[])) 13 (.tuple #[])) 14 (.tuple #[])) 15 (.tuple #[])) 16 (.tuple #[])) 17 (.tuple #[]),H,n+11))
 ).bind fun(q5:R3)=>(Zl (q5.1 10) (q5.1 17) (.bool false)).bind fun v13=>csel v13
 ((Za 0 (q5.1 3)).bind fun v14=>(ld false 1 v14 q5.2.1).bind fun v15=>(Zo 5 v15 (q5.1 1)).bind fun v16=>(Za 4 v16).bind fun v17=>(ld false 1 v17 q5.2.1).bind fun v18=>(Zd .plain .sub (q5.1 2) (.int .i64 1)).bind fun v19=>some ⟨.normal,put (put (put (put (put (put (put (put (put (put (put q5.1 18 v13) 21 v14) 22 v15) 23 (q5.1 1)) 24 v16) 25 v17) 26 v18) 1 v18) 19 (q5.1 2)) 20 v19) 2 v19,q5.2.1,q5.2.2+10⟩)
 (some ⟨(.exit 0),put q5.1 18 v13,q5.2.1,q5.2.2⟩)
noncomputable def S85 (C:Zb)(L:Zc->Zc)(t:Tm)(H:Hp)(n:Nat):Option (Value × Hp × Nat) :=
 (Zs (t 0)).bind fun c2=>let H1:=H.set (n) (some (.row c2 0 true))
 (L (S85L0 C L) (put (put (put t 3 (ptr (n) 0)) 6 (.int .i64 0)) 7 (.bool false)) H1 (n+3)).bind fun(o3:Out)=>(Za 0 (o3.t 3)).bind fun v20=>(ld false 1 v20 o3.H).bind fun v21=>(Zo 5 v21 (o3.t 1)).bind fun v22=>(Za 0 v22).bind fun v23=>(ld false 1 v23 o3.H).bind fun v24=>(Zd .plain .neq v24 (.int .i64 5)).bind fun v25=>csel v25
 (Yr ([.int .i64 0,.bool false].all notTup) <|some (.tuple ⟨[.int .i64 0,.bool false]⟩,o3.H,o3.n+9))
 ((Za 0 (o3.t 3)).bind fun v26=>(ld false 1 v26 o3.H).bind fun v27=>(Zo 5 v27 (o3.t 1)).bind fun v28=>(Za 3 v28).bind fun v29=>(ld false 1 v29 o3.H).bind fun v30=>Yr ([v30,.bool true].all notTup) <|some (.tuple ⟨[v30,.bool true]⟩,o3.H,o3.n+15))
theorem s85 (C:Zb)(L:Zc->Zc)(t:Tm)(H:Hp)(n:Nat):Zq Tryz.prog C L Tryz.f85 t H n=S85 C L t H n:=by kernel_rfl
theorem c85 (args:List Value)(H:Hp)(n:Nat):Call Tryz.prog 85 args H n=S85 (Call Tryz.prog) Zm (Zp args) H n:=(Zg Tryz.func85 args H n).trans (s85 ..)
noncomputable def S86 (C:Zb)(L:Zc->Zc)(t:Tm)(H:Hp)(n:Nat):Option (Value × Hp × Nat) :=
 (Zs (t 0)).bind fun c2=>let H1:=H.set (n) (some (.row c2 0 true))
 (ld true 3 (ptr (n) 0) H1).bind fun v3=>(C 80 [v3,t 2] H1 (n+6)).bind fun q4=>(Zd .plain .geq q4.1 (.int .i64 0)).bind fun v5=>csel v5
 ((Zh (t 1)).bind fun v6=>(Za 0 v6).bind fun v7=>(Xf [.int .i64 0,.int .i64 0,.string ⟨#[]⟩,.int .i64 0,.int .i64 0] [(0,1,.int .i64 1)]).bind fun v8=>(C 88 [v7,v8] q4.2.1 (q4.2.2+8)).bind fun q9=>(Zh (t 1)).bind fun v10=>(Za 0 v10).bind fun v11=>(Za 2 (ptr (n) 0)).bind fun v12=>(ld false 1 v12 q9.2.1).bind fun v13=>(Zo 3 v13 q4.1).bind fun v14=>(Za 1 v14).bind fun v15=>(ld false 1 v15 q9.2.1).bind fun v16=>(Zd .plain .mul (.int .i64 8) v16).bind fun v17=>(Za 2 (ptr (n) 0)).bind fun v18=>(ld false 1 v18 q9.2.1).bind fun v19=>(Zo 3 v19 q4.1).bind fun v20=>(Za 2 v20).bind fun v21=>(ld false 1 v21 q9.2.1).bind fun v22=>(Zd .plain .add v17 v22).bind fun v23=>(Xf [.int .i64 0,.int .i64 0,.string ⟨#[]⟩,.int .i64 0,.int .i64 0] [(0,1,.int .i64 6),(1,1,v23),(3,1,q9.1)]).bind fun v24=>(C 88 [v11,v24] q9.2.1 (q9.2.2+22)).bind fun q25=>(C 83 [t 1,q25.1] q25.2.1 (q25.2.2)).bind fun q26=>some (.int .i64 0,q26.2.1,q26.2.2+1))
 ((C 119 [t 2] q4.2.1 (q4.2.2+5)).bind fun q27=>(Zd .plain .eql q27.1 (.int .i64 0)).bind fun v28=>csel v28
 (some (.int .i64 1,q27.2.1,q27.2.2+3))
 ((Zh (t 1)).bind fun v29=>(Za 0 v29).bind fun v30=>(Xf [.int .i64 0,.int .i64 0,.string ⟨#[]⟩,.int .i64 0,.int .i64 0] [(0,1,.int .i64 8),(1,1,q27.1)]).bind fun v31=>(C 88 [v30,v31] q27.2.1 (q27.2.2+10)).bind fun q32=>(C 83 [t 1,q32.1] q32.2.1 (q32.2.2)).bind fun q33=>some (.int .i64 0,q33.2.1,q33.2.2+1)))
theorem s86 (C:Zb)(L:Zc->Zc)(t:Tm)(H:Hp)(n:Nat):Zq Tryz.prog C L Tryz.f86 t H n=S86 C L t H n:=by kernel_rfl
theorem c86 (args:List Value)(H:Hp)(n:Nat):Call Tryz.prog 86 args H n=S86 (Call Tryz.prog) Zm (Zp args) H n:=(Zg Tryz.func86 args H n).trans (s86 ..)
noncomputable def S87 (C:Zb)(L:Zc->Zc)(t:Tm)(H:Hp)(n:Nat):Option (Value × Hp × Nat) :=
 (Zh (t 0)).bind fun v1=>(Za 0 v1).bind fun v2=>(Za 0 v2).bind fun v3=>(ld false 1 v3 H).bind fun v4=>(Zh (t 0)).bind fun v5=>(Za 2 v5).bind fun v6=>(ld false 1 v6 H).bind fun v7=>(Zo 5 v4 v7).bind fun v8=>(ld true 5 v8 H).bind fun v9=>let H10:=H.set (n+13) (some (.row [.int .i64 0,.int .i64 0,.string ⟨#[]⟩,.int .i64 0,.int .i64 0] 0 true))
 (st true 5 (ptr (n+13) 0) v9 H10).bind fun H11=>(Za 0 (ptr (n+13) 0)).bind fun v12=>(ld false 1 v12 H11).bind fun v13=>(Zd .plain .neq v13 (.int .i64 5)).bind fun v14=>csel v14
 (Yr ([.int .i64 0,.bool false].all notTup) <|some (.tuple ⟨[.int .i64 0,.bool false]⟩,H11,n+20))
 ((Za 4 (ptr (n+13) 0)).bind fun v15=>(ld false 1 v15 H11).bind fun v16=>(Zh (t 0)).bind fun v17=>(Za 2 v17).bind fun v18=>(st false 1 v18 v16 H11).bind fun H19=>(Za 3 (ptr (n+13) 0)).bind fun v20=>(ld false 1 v20 H19).bind fun v21=>Yr ([v21,.bool true].all notTup) <|some (.tuple ⟨[v21,.bool true]⟩,H19,n+28))
theorem s87 (C:Zb)(L:Zc->Zc)(t:Tm)(H:Hp)(n:Nat):Zq Tryz.prog C L Tryz.f87 t H n=S87 C L t H n:=by kernel_rfl
theorem c87 (args:List Value)(H:Hp)(n:Nat):Call Tryz.prog 87 args H n=S87 (Call Tryz.prog) Zm (Zp args) H n:=(Zg Tryz.func87 args H n).trans (s87 ..)
noncomputable def S88 (C:Zb)(L:Zc->Zc)(t:Tm)(H:Hp)(n:Nat):Option (Value × Hp × Nat) :=
 (Zs (t 1)).bind fun c2=>let H1:=H.set (n) (some (.row c2 0 true))
 (Zh (t 0)).bind fun v3=>(Za 0 v3).bind fun v4=>(ld false 1 v4 H1).bind fun v5=>(ld true 5 (ptr (n) 0) H1).bind fun v6=>(Xx (n+8) 5 1 [.int .i64 0,.int .i64 0,.string ⟨#[]⟩,.int .i64 0,.int .i64 0] [(0,5,v6)] H1).bind fun p7=>(app (n+9) 5 48 v5 p7.1 p7.2).bind fun p8=>(Zh (t 0)).bind fun v9=>(Za 0 v9).bind fun v10=>(st false 1 v10 p8.1 p8.2).bind fun H11=>(Zh (t 0)).bind fun v12=>(Za 0 v12).bind fun v13=>(ld false 1 v13 H11).bind fun v14=>(Zx false v14).bind fun v15=>(Zd .plain .sub v15 (.int .i64 1)).bind fun v16=>some (v16,H11,n+20)
theorem s88 (C:Zb)(L:Zc->Zc)(t:Tm)(H:Hp)(n:Nat):Zq Tryz.prog C L Tryz.f88 t H n=S88 C L t H n:=by kernel_rfl
theorem c88 (args:List Value)(H:Hp)(n:Nat):Call Tryz.prog 88 args H n=S88 (Call Tryz.prog) Zm (Zp args) H n:=(Zg Tryz.func88 args H n).trans (s88 ..)
noncomputable def S89L0 (C:Zb)(L:Zc->Zc):Zc:=fun t H n=>(Zd .plain .geq (t 10) (.int .i64 0)).bind fun v6=>csel v6
 ((C 87 [t 1] H (n+9)).bind fun q7=>(ext 0 q7.1).bind fun v8=>(ext 1 q7.1).bind fun v9=>(un .not v9).bind fun v10=>csel v10
 (some ⟨.ret,put (put (put (put (put (put (put (put (put (put (put (put t 19 (t 10)) 20 v6) 24 (t 1)) 25 q7.1) 23 q7.1) 26 v8) 27 v9) 11 v8) 12 v9) 28 v9) 29 v10) 8 (.int .i64 7),q7.2.1,q7.2.2+3⟩)
 ((Zo 1 (t 9) (t 10)).bind fun v11=>(st false 1 v11 v8 q7.2.1).bind fun H12=>(Zd .plain .sub (t 10) (.int .i64 1)).bind fun v13=>some ⟨.normal,put (put (put (put (put (put (put (put (put (put (put (put (put (put (put (put (put (put t 19 (t 10)) 20 v6) 24 (t 1)) 25 q7.1) 23 q7.1) 26 v8) 27 v9) 11 v8) 12 v9) 28 v9) 29 v10) 30 (t 9)) 31 (t 10)) 32 v8) 33 v11) 21 (t 10)) 22 v13) 10 v13,H12,q7.2.2+10⟩))
 (some ⟨(.exit 0),put (put t 19 (t 10)) 20 v6,H,n+2⟩)
noncomputable def S89 (C:Zb)(L:Zc->Zc)(t:Tm)(H:Hp)(n:Nat):Option (Value × Hp × Nat) :=
 (Zs (t 0)).bind fun c2=>let H1:=H.set (n) (some (.row c2 0 true))
 (mks (n+3) 1 8 [.int .i64 0] (t 2) (t 2) H1).bind fun p3=>(Zd .plain .sub (t 2) (.int .i64 1)).bind fun v4=>(L (S89L0 C L) (put (put (put (put (put (put (put (put t 4 (ptr (n) 0)) 8 (.int .i64 0)) 15 (t 2)) 16 p3.1) 9 p3.1) 17 (t 2)) 18 v4) 10 v4) p3.2 (n+8)).bind fun(o5:Out)=>let o14:=outOf 0 o5
 Xe o14
 ((C 87 [o14.t 1] o14.H (o14.n+7)).bind fun q15=>(ext 0 q15.1).bind fun v16=>(ext 1 q15.1).bind fun v17=>(un .not v17).bind fun v18=>let t20:Tm:=put (put (put (put (put (put (put (put (put (put o14.t 35 (o14.t 1)) 36 q15.1) 34 q15.1) 37 v16) 38 v17) 13 v16) 14 v17) 39 v17) 40 v18) 41 v18
 (gsel v18 false
 ((Za 1 (t20 4)).bind fun v21=>(ld false 1 v21 q15.2.1).bind fun v22=>(Zx false v22).bind fun v23=>(Zd .plain .geq (t20 3) v23).bind fun v24=>some (put (put (put (put (put t20 42 (t20 3)) 43 v21) 44 v22) 45 v23) 46 v24,q15.2.1,q15.2.2+9))
 (some (put (put (put (put (put t20 42 (.tuple #[])) 43 (.tuple #[])) 44 (.tuple #[])) 45 (.tuple #[])) 46 (.tuple #[]),q15.2.1,q15.2.2+9))
 ).bind fun(q19:R3)=>(Zl (q19.1 41) (.bool true) (q19.1 46)).bind fun v25=>csel v25
 (some (.int .i64 7,q19.2.1,q19.2.2+1))
 ((ld true 3 (q19.1 4) q19.2.1).bind fun v26=>(C 120 [v26,q19.1 1,q19.1 13,q19.1 9,q19.1 3] q19.2.1 (q19.2.2+7)).bind fun q27=>some (q27.1,q27.2.1,q27.2.2)))
 (Vs o14.e
 (some (o14.t 8,o14.H,o14.n)))
theorem s89 (C:Zb)(L:Zc->Zc)(t:Tm)(H:Hp)(n:Nat):Zq Tryz.prog C L Tryz.f89 t H n=S89 C L t H n:=by kernel_rfl
theorem c89 (args:List Value)(H:Hp)(n:Nat):Call Tryz.prog 89 args H n=S89 (Call Tryz.prog) Zm (Zp args) H n:=(Zg Tryz.func89 args H n).trans (s89 ..)
noncomputable def S90 (C:Zb)(L:Zc->Zc)(t:Tm)(H:Hp)(n:Nat):Option (Value × Hp × Nat) :=
 (C 87 [t 0] H (n+8)).bind fun q1=>(ext 0 q1.1).bind fun v2=>(ext 1 q1.1).bind fun v3=>(un .not v3).bind fun v4=>csel v4
 (some (.int .i64 7,q1.2.1,q1.2.2+3))
 ((Zh (t 0)).bind fun v5=>(Za 0 v5).bind fun v6=>(Za 0 v6).bind fun v7=>(ld false 1 v7 q1.2.1).bind fun v8=>(Zh (t 0)).bind fun v9=>(Za 4 v9).bind fun v10=>(ld false 1 v10 q1.2.1).bind fun v11=>(Zo 5 v8 v11).bind fun v12=>(ld true 5 v12 q1.2.1).bind fun v13=>let H14:=q1.2.1.set (q1.2.2+13) (some (.row [.int .i64 0,.int .i64 0,.string ⟨#[]⟩,.int .i64 0,.int .i64 0] 0 true))
 (st true 5 (ptr (q1.2.2+13) 0) v13 H14).bind fun H15=>(Za 0 (ptr (q1.2.2+13) 0)).bind fun v16=>(ld false 1 v16 H15).bind fun v17=>(Zd .plain .eql v17 (.int .i64 1)).bind fun v18=>csel v18
 ((Zh (t 0)).bind fun v19=>(Za 5 v19).bind fun v20=>(st false 1 v20 (.int .i64 2) H15).bind fun H21=>(Zh (t 0)).bind fun v22=>(Za 1 v22).bind fun v23=>(st false 1 v23 (.int .i64 0) H21).bind fun H24=>(Zh (t 0)).bind fun v25=>(Za 7 v25).bind fun v26=>(st false 1 v26 v2 H24).bind fun H27=>some (.int .i64 0,H27,q1.2.2+32))
 ((Za 0 (ptr (q1.2.2+13) 0)).bind fun v28=>(ld false 1 v28 H15).bind fun v29=>(Zd .plain .neq v29 (.int .i64 5)).bind fun v30=>csel v30
 (some (.int .i64 7,H15,q1.2.2+22))
 ((Zh (t 0)).bind fun v31=>(Za 0 v31).bind fun v32=>(ld true 1 v32 H15).bind fun v33=>(Za 3 (ptr (q1.2.2+13) 0)).bind fun v34=>(ld false 1 v34 H15).bind fun v35=>(C 121 [v33,v35,.int .i64 3] H15 (q1.2.2+35)).bind fun q36=>(ext 0 q36.1).bind fun v37=>(ext 1 q36.1).bind fun v38=>(ext 2 q36.1).bind fun v39=>(un .not v39).bind fun v40=>csel v40
 (some (.int .i64 7,q36.2.1,q36.2.2+3))
 ((Zh (t 0)).bind fun v41=>(Za 1 v41).bind fun v42=>(st false 1 v42 v37 q36.2.1).bind fun H43=>(Zo 1 v38 (.int .i64 0)).bind fun v44=>(ld false 1 v44 H43).bind fun v45=>(Zh (t 0)).bind fun v46=>(Za 2 v46).bind fun v47=>(st false 1 v47 v45 H43).bind fun H48=>(Zo 1 v38 (.int .i64 1)).bind fun v49=>(ld false 1 v49 H48).bind fun v50=>(Zh (t 0)).bind fun v51=>(Za 3 v51).bind fun v52=>(st false 1 v52 v50 H48).bind fun H53=>(Za 4 (ptr (q1.2.2+13) 0)).bind fun v54=>(ld false 1 v54 H53).bind fun v55=>(Zh (t 0)).bind fun v56=>(Za 4 v56).bind fun v57=>(st false 1 v57 v55 H53).bind fun H58=>(C 83 [t 0,v2] H58 (q36.2.2+30)).bind fun q59=>some (.int .i64 0,q59.2.1,q59.2.2+1)))))
theorem s90 (C:Zb)(L:Zc->Zc)(t:Tm)(H:Hp)(n:Nat):Zq Tryz.prog C L Tryz.f90 t H n=S90 C L t H n:=by kernel_rfl
theorem c90 (args:List Value)(H:Hp)(n:Nat):Call Tryz.prog 90 args H n=S90 (Call Tryz.prog) Zm (Zp args) H n:=(Zg Tryz.func90 args H n).trans (s90 ..)
noncomputable def S92 (C:Zb)(L:Zc->Zc)(t:Tm)(H:Hp)(n:Nat):Option (Value × Hp × Nat) :=
 (Zd .slice .eql (t 0) nilS).bind fun v1=>csel v1
 (some (nilS,H,n+4))
 ((Xx (n+3) 5 0 [.int .i64 0,.int .i64 0,.string ⟨#[]⟩,.int .i64 0,.int .i64 0] [] H).bind fun p2=>(app (n+5) 5 48 p2.1 (t 0) p2.2).bind fun p3=>some (p3.1,p3.2,n+7))
theorem s92 (C:Zb)(L:Zc->Zc)(t:Tm)(H:Hp)(n:Nat):Zq Tryz.prog C L Tryz.f92 t H n=S92 C L t H n:=by kernel_rfl
theorem c92 (args:List Value)(H:Hp)(n:Nat):Call Tryz.prog 92 args H n=S92 (Call Tryz.prog) Zm (Zp args) H n:=(Zg Tryz.func92 args H n).trans (s92 ..)
noncomputable def S93 (C:Zb)(L:Zc->Zc)(t:Tm)(H:Hp)(n:Nat):Option (Value × Hp × Nat) :=
 (Zh (t 0)).bind fun v1=>(Za 0 v1).bind fun v2=>(Za 0 v2).bind fun v3=>(Za 0 v3).bind fun v4=>(ld false 1 v4 H).bind fun v5=>(Zh (t 0)).bind fun v6=>(Za 0 v6).bind fun v7=>(Za 2 v7).bind fun v8=>(ld false 1 v8 H).bind fun v9=>(Zo 5 v5 v9).bind fun v10=>(ld true 5 v10 H).bind fun v11=>let H12:=H.set (n+15) (some (.row [.int .i64 0,.int .i64 0,.string ⟨#[]⟩,.int .i64 0,.int .i64 0] 0 true))
 (st true 5 (ptr (n+15) 0) v11 H12).bind fun H13=>(Za 0 (ptr (n+15) 0)).bind fun v14=>(ld false 1 v14 H13).bind fun v15=>(Zd .plain .neq v15 (.int .i64 5)).bind fun v16=>csel v16
 (Yr ([.int .i64 0,.bool false].all notTup) <|some (.tuple ⟨[.int .i64 0,.bool false]⟩,H13,n+22))
 ((Za 4 (ptr (n+15) 0)).bind fun v17=>(ld false 1 v17 H13).bind fun v18=>(Zh (t 0)).bind fun v19=>(Za 0 v19).bind fun v20=>(Za 2 v20).bind fun v21=>(st false 1 v21 v18 H13).bind fun H22=>(Za 3 (ptr (n+15) 0)).bind fun v23=>(ld false 1 v23 H22).bind fun v24=>Yr ([v24,.bool true].all notTup) <|some (.tuple ⟨[v24,.bool true]⟩,H22,n+31))
theorem s93 (C:Zb)(L:Zc->Zc)(t:Tm)(H:Hp)(n:Nat):Zq Tryz.prog C L Tryz.f93 t H n=S93 C L t H n:=by kernel_rfl
theorem c93 (args:List Value)(H:Hp)(n:Nat):Call Tryz.prog 93 args H n=S93 (Call Tryz.prog) Zm (Zp args) H n:=(Zg Tryz.func93 args H n).trans (s93 ..)
noncomputable def S94L0 (C:Zb)(L:Zc->Zc):Zc:=fun t H n=>(Zd .plain .lss (t 2) (t 3)).bind fun v4=>csel v4
 ((Zo 1 (t 0) (t 3)).bind fun v5=>(ld false 1 v5 H).bind fun v6=>(Zo 1 (t 0) (t 2)).bind fun v7=>(ld false 1 v7 H).bind fun v8=>(Zo 1 (t 0) (t 2)).bind fun v9=>(st false 1 v9 v6 H).bind fun H10=>(Zo 1 (t 0) (t 3)).bind fun v11=>(st false 1 v11 v8 H10).bind fun H12=>(Zd .plain .add (t 2) (.int .i64 1)).bind fun v13=>(Zd .plain .sub (t 3) (.int .i64 1)).bind fun v14=>some ⟨.normal,put (put (put (put (put (put (put (put (put (put (put (put (put (put (put (put (put (put (put (put (put (put (put t 7 (t 2)) 8 (t 3)) 9 v4) 14 (t 0)) 15 (t 2)) 16 (t 0)) 17 (t 3)) 18 (t 0)) 19 (t 3)) 20 v5) 21 v6) 22 (t 0)) 23 (t 2)) 24 v7) 25 v8) 26 v9) 27 v11) 10 (t 2)) 11 v13) 12 (t 3)) 13 v14) 2 v13) 3 v14,H12,n+25⟩)
 (some ⟨(.exit 0),put (put (put t 7 (t 2)) 8 (t 3)) 9 v4,H,n+3⟩)
noncomputable def S94 (C:Zb)(L:Zc->Zc)(t:Tm)(H:Hp)(n:Nat):Option (Value × Hp × Nat) :=
 (Zx false (t 0)).bind fun v1=>(Zd .plain .sub v1 (.int .i64 1)).bind fun v2=>(L (S94L0 C L) (put (put (put (put (put t 4 (t 0)) 5 v1) 6 v2) 2 (.int .i64 0)) 3 v2) H (n+5)).bind fun(o3:Out)=>some (.tuple ⟨[]⟩,o3.H,o3.n)
theorem s94 (C:Zb)(L:Zc->Zc)(t:Tm)(H:Hp)(n:Nat):Zq Tryz.prog C L Tryz.f94 t H n=S94 C L t H n:=by kernel_rfl
theorem c94 (args:List Value)(H:Hp)(n:Nat):Call Tryz.prog 94 args H n=S94 (Call Tryz.prog) Zm (Zp args) H n:=(Zg Tryz.func94 args H n).trans (s94 ..)
noncomputable def S95 (C:Zb)(L:Zc->Zc)(t:Tm)(H:Hp)(n:Nat):Option (Value × Hp × Nat) :=
 (Zh (t 0)).bind fun v1=>(Za 0 v1).bind fun v2=>(Za 0 v2).bind fun v3=>(Za 0 v3).bind fun v4=>(ld false 1 v4 H).bind fun v5=>(Zo 5 v5 (t 1)).bind fun v6=>(ld true 5 v6 H).bind fun v7=>let H8:=H.set (n+10) (some (.row [.int .i64 0,.int .i64 0,.string ⟨#[]⟩,.int .i64 0,.int .i64 0] 0 true))
 (st true 5 (ptr (n+10) 0) v7 H8).bind fun H9=>(Za 0 (ptr (n+10) 0)).bind fun v10=>(ld false 1 v10 H9).bind fun v11=>(Zd .plain .eql v11 (.int .i64 6)).bind fun v12=>csel v12
 ((ld true 5 (ptr (n+10) 0) H9).bind fun v13=>(C 122 [t 0,v13,t 2] H9 (n+21)).bind fun q14=>some (q14.1,q14.2.1,q14.2.2))
 ((Zd .plain .eql v11 (.int .i64 8)).bind fun v15=>csel v15
 ((Za 1 (ptr (n+10) 0)).bind fun v16=>(ld false 1 v16 H9).bind fun v17=>(C 123 [t 0,v17,t 2] H9 (n+24)).bind fun q18=>some (q18.1,q18.2.1,q18.2.2))
 ((Zd .plain .eql v11 (.int .i64 7)).bind fun v19=>csel v19
 ((Za 3 (ptr (n+10) 0)).bind fun v20=>(ld false 1 v20 H9).bind fun v21=>(C 124 [t 0,v21,t 2] H9 (n+26)).bind fun q22=>some (q22.1,q22.2.1,q22.2.2))
 (some (.int .i64 3,H9,n+21))))
theorem s95 (C:Zb)(L:Zc->Zc)(t:Tm)(H:Hp)(n:Nat):Zq Tryz.prog C L Tryz.f95 t H n=S95 C L t H n:=by kernel_rfl
theorem c95 (args:List Value)(H:Hp)(n:Nat):Call Tryz.prog 95 args H n=S95 (Call Tryz.prog) Zm (Zp args) H n:=(Zg Tryz.func95 args H n).trans (s95 ..)
noncomputable def S96L0 (C:Zb)(L:Zc->Zc):Zc:=fun t H n=>(Zh (t 0)).bind fun v3=>(Za 0 v3).bind fun v4=>(ld false 1 v4 H).bind fun v5=>(Zo 5 v5 (t 1)).bind fun v6=>(Za 0 v6).bind fun v7=>(ld false 1 v7 H).bind fun v8=>(Zd .plain .eql v8 (.int .i64 5)).bind fun v9=>csel v9
 ((Zh (t 0)).bind fun v10=>(Za 0 v10).bind fun v11=>(ld false 1 v11 H).bind fun v12=>(Zo 5 v12 (t 1)).bind fun v13=>(Za 3 v13).bind fun v14=>(ld false 1 v14 H).bind fun v15=>(Xx (n+18) 1 1 [.int .i64 0] [(0,1,v15)] H).bind fun p16=>(app (n+19) 1 8 (t 6) p16.1 p16.2).bind fun p17=>(Zh (t 0)).bind fun v18=>(Za 0 v18).bind fun v19=>(ld false 1 v19 p17.2).bind fun v20=>(Zo 5 v20 (t 1)).bind fun v21=>(Za 4 v21).bind fun v22=>(ld false 1 v22 p17.2).bind fun v23=>some ⟨.normal,put (put (put (put (put (put (put (put (put (put (put (put (put (put (put (put (put (put (put (put (put (put (put (put (put (put (put (put (put (put t 8 (t 0)) 9 v3) 10 v4) 11 v5) 12 (t 1)) 13 v6) 14 v7) 15 v8) 16 v9) 17 (t 6)) 18 (t 0)) 19 v10) 20 v11) 21 v12) 22 (t 1)) 23 v13) 24 v14) 25 v15) 26 p16.1) 27 p17.1) 6 p17.1) 28 (t 0)) 29 v18) 30 v19) 31 v20) 32 (t 1)) 33 v21) 34 v22) 35 v23) 1 v23,p17.2,n+30⟩)
 (some ⟨(.exit 0),put (put (put (put (put (put (put (put (put t 8 (t 0)) 9 v3) 10 v4) 11 v5) 12 (t 1)) 13 v6) 14 v7) 15 v8) 16 v9,H,n+9⟩)
noncomputable def S96 (C:Zb)(L:Zc->Zc)(t:Tm)(H:Hp)(n:Nat):Option (Value × Hp × Nat) :=
 (Xx (n+2) 1 0 [.int .i64 0] [] H).bind fun p1=>(L (S96L0 C L) (put (put (put (put t 4 nilS) 5 (.bool false)) 7 p1.1) 6 p1.1) p1.2 (n+4)).bind fun(o2:Out)=>(Zh (o2.t 0)).bind fun v24=>(Za 0 v24).bind fun v25=>(ld false 1 v25 o2.H).bind fun v26=>(Zo 5 v26 (o2.t 1)).bind fun v27=>(Za 0 v27).bind fun v28=>(ld false 1 v28 o2.H).bind fun v29=>(Zd .plain .eql v29 (.int .i64 1)).bind fun v30=>Yr ([o2.t 6,v30].all notTup) <|some (.tuple ⟨[o2.t 6,v30]⟩,o2.H,o2.n+12)
theorem s96 (C:Zb)(L:Zc->Zc)(t:Tm)(H:Hp)(n:Nat):Zq Tryz.prog C L Tryz.f96 t H n=S96 C L t H n:=by kernel_rfl
theorem c96 (args:List Value)(H:Hp)(n:Nat):Call Tryz.prog 96 args H n=S96 (Call Tryz.prog) Zm (Zp args) H n:=(Zg Tryz.func96 args H n).trans (s96 ..)
noncomputable def S97 (C:Zb)(L:Zc->Zc)(t:Tm)(H:Hp)(n:Nat):Option (Value × Hp × Nat) :=
 (Zh (t 0)).bind fun v1=>(Za 0 v1).bind fun v2=>(Za 0 v2).bind fun v3=>(Zh (t 0)).bind fun v4=>(Za 0 v4).bind fun v5=>(Za 2 v5).bind fun v6=>(ld false 1 v6 H).bind fun v7=>(C 125 [v3,t 1,v7] H (n+16)).bind fun q8=>(Zh (t 0)).bind fun v9=>(Za 0 v9).bind fun v10=>(Za 2 v10).bind fun v11=>(st false 1 v11 q8.1 q8.2.1).bind fun H12=>some (.tuple ⟨[]⟩,H12,q8.2.2)
theorem s97 (C:Zb)(L:Zc->Zc)(t:Tm)(H:Hp)(n:Nat):Zq Tryz.prog C L Tryz.f97 t H n=S97 C L t H n:=by kernel_rfl
theorem c97 (args:List Value)(H:Hp)(n:Nat):Call Tryz.prog 97 args H n=S97 (Call Tryz.prog) Zm (Zp args) H n:=(Zg Tryz.func97 args H n).trans (s97 ..)
noncomputable def S98 (C:Zb)(L:Zc->Zc)(t:Tm)(H:Hp)(n:Nat):Option (Value × Hp × Nat) :=
 (Zs (t 1)).bind fun c2=>let H1:=H.set (n) (some (.row c2 0 true))
 (ld true 1 (ptr (n) 0) H1).bind fun v3=>(Xx (n+5) 1 1 [.int .i64 0] [(0,1,t 2)] H1).bind fun p4=>(C 126 [t 0,v3,p4.1] p4.2 (n+11)).bind fun q5=>(Zo 1 q5.1 (t 2)).bind fun v6=>(ld false 1 v6 q5.2.1).bind fun v7=>some (v7,q5.2.1,q5.2.2)
theorem s98 (C:Zb)(L:Zc->Zc)(t:Tm)(H:Hp)(n:Nat):Zq Tryz.prog C L Tryz.f98 t H n=S98 C L t H n:=by kernel_rfl
theorem c98 (args:List Value)(H:Hp)(n:Nat):Call Tryz.prog 98 args H n=S98 (Call Tryz.prog) Zm (Zp args) H n:=(Zg Tryz.func98 args H n).trans (s98 ..)
noncomputable def S99 (C:Zb)(L:Zc->Zc)(t:Tm)(H:Hp)(n:Nat):Option (Value × Hp × Nat) :=
 (Zh (t 0)).bind fun v1=>(Za 0 v1).bind fun v2=>(Za 3 v2).bind fun v3=>(ld false 1 v3 H).bind fun v4=>(C 127 [t 0,v4,t 1] H (n+14)).bind fun q5=>(ext 0 q5.1).bind fun v6=>(ext 1 q5.1).bind fun v7=>(un .not v7).bind fun v8=>csel v8
 (some (.int .i64 7,q5.2.1,q5.2.2+3))
 ((C 127 [t 0,v6,t 2] q5.2.1 (q5.2.2+11)).bind fun q9=>(ext 0 q9.1).bind fun v10=>(ext 1 q9.1).bind fun v11=>(un .not v11).bind fun v12=>csel v12
 (some (.int .i64 7,q9.2.1,q9.2.2+3))
 ((C 97 [t 0,v10] q9.2.1 (q9.2.2+5)).bind fun q13=>some (.int .i64 0,q13.2.1,q13.2.2+1)))
theorem s99 (C:Zb)(L:Zc->Zc)(t:Tm)(H:Hp)(n:Nat):Zq Tryz.prog C L Tryz.f99 t H n=S99 C L t H n:=by kernel_rfl
theorem c99 (args:List Value)(H:Hp)(n:Nat):Call Tryz.prog 99 args H n=S99 (Call Tryz.prog) Zm (Zp args) H n:=(Zg Tryz.func99 args H n).trans (s99 ..)
noncomputable def S100 (C:Zb)(L:Zc->Zc)(t:Tm)(H:Hp)(n:Nat):Option (Value × Hp × Nat) :=
 (Zh (t 0)).bind fun v1=>(Za 8 v1).bind fun v2=>(ld true 3 v2 H).bind fun v3=>(C 76 [v3,t 1] H (n+8)).bind fun q4=>(Zd .plain .geq q4.1 (.int .i64 0)).bind fun v5=>csel v5
 ((Zh (t 0)).bind fun v6=>(Za 8 v6).bind fun v7=>(Za 2 v7).bind fun v8=>(ld false 1 v8 q4.2.1).bind fun v9=>(Zo 3 v9 q4.1).bind fun v10=>(ld true 3 v10 q4.2.1).bind fun v11=>let H12:=q4.2.1.set (q4.2.2+10) (some (.row [.string ⟨#[]⟩,.int .i64 0,.int .i64 0] 0 true))
 (st true 3 (ptr (q4.2.2+10) 0) v11 H12).bind fun H13=>(Zh (t 0)).bind fun v14=>(Za 0 v14).bind fun v15=>(Za 0 v15).bind fun v16=>(Xf [.int .i64 0,.int .i64 0,.string ⟨#[]⟩,.int .i64 0,.int .i64 0] [(0,1,.int .i64 1)]).bind fun v17=>(C 101 [v16,v17] H13 (q4.2.2+19)).bind fun q18=>(Zh (t 0)).bind fun v19=>(Za 0 v19).bind fun v20=>(Za 0 v20).bind fun v21=>(Za 1 (ptr (q4.2.2+10) 0)).bind fun v22=>(ld false 1 v22 q18.2.1).bind fun v23=>(Zd .plain .mul (.int .i64 8) v23).bind fun v24=>(Za 2 (ptr (q4.2.2+10) 0)).bind fun v25=>(ld false 1 v25 q18.2.1).bind fun v26=>(Zd .plain .add v24 v26).bind fun v27=>(Xf [.int .i64 0,.int .i64 0,.string ⟨#[]⟩,.int .i64 0,.int .i64 0] [(0,1,.int .i64 6),(1,1,v27),(3,1,q18.1)]).bind fun v28=>(C 101 [v21,v28] q18.2.1 (q18.2.2+14)).bind fun q29=>(C 97 [t 0,q29.1] q29.2.1 (q29.2.2+3)).bind fun q30=>some (.int .i64 0,q30.2.1,q30.2.2+1))
 ((C 128 [t 1] q4.2.1 (q4.2.2+5)).bind fun q31=>(Zd .plain .eql q31.1 (.int .i64 0)).bind fun v32=>csel v32
 (some (.int .i64 1,q31.2.1,q31.2.2+3))
 ((Zh (t 0)).bind fun v33=>(Za 0 v33).bind fun v34=>(Za 0 v34).bind fun v35=>(Xf [.int .i64 0,.int .i64 0,.string ⟨#[]⟩,.int .i64 0,.int .i64 0] [(0,1,.int .i64 8),(1,1,q31.1)]).bind fun v36=>(C 101 [v35,v36] q31.2.1 (q31.2.2+10)).bind fun q37=>(C 97 [t 0,q37.1] q37.2.1 (q37.2.2+3)).bind fun q38=>some (.int .i64 0,q38.2.1,q38.2.2+1)))
theorem s100 (C:Zb)(L:Zc->Zc)(t:Tm)(H:Hp)(n:Nat):Zq Tryz.prog C L Tryz.f100 t H n=S100 C L t H n:=by kernel_rfl
theorem c100 (args:List Value)(H:Hp)(n:Nat):Call Tryz.prog 100 args H n=S100 (Call Tryz.prog) Zm (Zp args) H n:=(Zg Tryz.func100 args H n).trans (s100 ..)
noncomputable def S101 (C:Zb)(L:Zc->Zc)(t:Tm)(H:Hp)(n:Nat):Option (Value × Hp × Nat) :=
 (Zs (t 1)).bind fun c2=>let H1:=H.set (n) (some (.row c2 0 true))
 (Zh (t 0)).bind fun v3=>(Za 0 v3).bind fun v4=>(ld false 1 v4 H1).bind fun v5=>(ld true 5 (ptr (n) 0) H1).bind fun v6=>(Xx (n+8) 5 1 [.int .i64 0,.int .i64 0,.string ⟨#[]⟩,.int .i64 0,.int .i64 0] [(0,5,v6)] H1).bind fun p7=>(app (n+9) 5 48 v5 p7.1 p7.2).bind fun p8=>(Zh (t 0)).bind fun v9=>(Za 0 v9).bind fun v10=>(st false 1 v10 p8.1 p8.2).bind fun H11=>(Zh (t 0)).bind fun v12=>(Za 0 v12).bind fun v13=>(ld false 1 v13 H11).bind fun v14=>(Zx false v14).bind fun v15=>(Zd .plain .sub v15 (.int .i64 1)).bind fun v16=>some (v16,H11,n+20)
theorem s101 (C:Zb)(L:Zc->Zc)(t:Tm)(H:Hp)(n:Nat):Zq Tryz.prog C L Tryz.f101 t H n=S101 C L t H n:=by kernel_rfl
theorem c101 (args:List Value)(H:Hp)(n:Nat):Call Tryz.prog 101 args H n=S101 (Call Tryz.prog) Zm (Zp args) H n:=(Zg Tryz.func101 args H n).trans (s101 ..)
noncomputable def S103L0 (C:Zb)(L:Zc->Zc):Zc:=fun t H n=>(Zd .plain .lss (t 3) (.int .i64 4)).bind fun v3=>csel v3
 ((Xf [nilS] []).bind fun v4=>(C 130 [t 0] H (n+16)).bind fun q5=>(C 129 [v4,q5.1] q5.2.1 (q5.2.2)).bind fun q6=>(ext 0 q6.1).bind fun v7=>(ext 1 q6.1).bind fun v8=>(ext 2 q6.1).bind fun v9=>(ext 3 q6.1).bind fun v10=>let H11:=q6.2.1.set (n+11) (some (.row [nilS] 0 true))
 (st true 1 (ptr (n+11) 0) v7 H11).bind fun H12=>(ld true 1 (ptr (n+11) 0) H12).bind fun v13=>(C 131 [v13,v8] H12 (q6.2.2+11)).bind fun q14=>(ext 0 q14.1).bind fun v15=>(ext 1 q14.1).bind fun v16=>(ext 2 q14.1).bind fun v17=>let H18:=q14.2.1.set (q6.2.2+7) (some (.row [nilS,nilS,nilS] 0 true))
 (st true 3 (ptr (q6.2.2+7) 0) v15 H18).bind fun H19=>(Zd .plain .eql v9 (.int .i64 0)).bind fun v20=>let t22:Tm:=put (put (put (put (put (put (put (put (put (put (put (put (put (put (put (put (put (put (put (put (put (put (put (put (put (put (put (put t 18 (t 3)) 19 v3) 23 v4) 24 (t 0)) 25 q5.1) 26 q6.1) 22 q6.1) 27 v7) 28 v8) 29 v9) 30 v10) 4 (ptr (n+11) 0)) 5 v8) 6 v9) 7 v10) 32 v13) 33 v8) 34 q14.1) 31 q14.1) 35 v15) 36 v16) 37 v17) 8 (ptr (q6.2.2+7) 0)) 9 v16) 10 v17) 38 v9) 39 v20) 40 v20
 (gsel v20 true
 ((Zd .plain .eql v16 (.int .i64 0)).bind fun v23=>some (put (put t22 41 v16) 42 v23,H19,q14.2.2+6))
 (some (put (put t22 41 (.tuple #[])) 42 (.tuple #[]),H19,q14.2.2+6))
 ).bind fun(q21:R3)=>(Zl (q21.1 40) (q21.1 42) (.bool false)).bind fun v24=>csel v24
 ((ld true 3 (q21.1 8) q21.2.1).bind fun v25=>(st true 3 (q21.1 2) v25 q21.2.1).bind fun H26=>some ⟨.ret,put (put q21.1 43 v24) 44 v25,H26,q21.2.2+2⟩)
 ((Zd .plain .add (q21.1 3) (.int .i64 1)).bind fun v27=>some ⟨.normal,put (put (put (put q21.1 43 v24) 20 (q21.1 3)) 21 v27) 3 v27,q21.2.1,q21.2.2+3⟩))
 (some ⟨(.exit 0),put (put t 18 (t 3)) 19 v3,H,n+2⟩)
noncomputable def S103 (C:Zb)(L:Zc->Zc)(t:Tm)(H:Hp)(n:Nat):Option (Value × Hp × Nat) :=
 let H1:=H.set (n) (some (.row [nilS,nilS,nilS] 0 true))
 (L (S103L0 C L) (put (put t 2 (ptr (n) 0)) 3 (.int .i64 0)) H1 (n+2)).bind fun(o2:Out)=>let o28:=outOf 0 o2
 Xe o28
 ((Xf [nilS] []).bind fun v29=>(C 129 [v29,.string ⟨#[40,112,114,105,110,116,32,49,41]⟩] o28.H (o28.n+12)).bind fun q30=>(ext 0 q30.1).bind fun v31=>(ext 1 q30.1).bind fun v32=>(ext 2 q30.1).bind fun v33=>(ext 3 q30.1).bind fun v34=>let H35:=q30.2.1.set (o28.n+7) (some (.row [nilS] 0 true))
 (st true 1 (ptr (o28.n+7) 0) v31 H35).bind fun H36=>(ld true 1 (ptr (o28.n+7) 0) H36).bind fun v37=>(C 131 [v37,v32] H36 (q30.2.2+11)).bind fun q38=>(ext 0 q38.1).bind fun v39=>(ext 1 q38.1).bind fun v40=>(ext 2 q38.1).bind fun v41=>let H42:=q38.2.1.set (q30.2.2+7) (some (.row [nilS,nilS,nilS] 0 true))
 (st true 3 (ptr (q30.2.2+7) 0) v39 H42).bind fun H43=>(ld true 3 (ptr (q30.2.2+7) 0) H43).bind fun v44=>(st true 3 (o28.t 2) v44 H43).bind fun H45=>(ld true 3 (o28.t 2) H45).bind fun v46=>some (v46,H45,q38.2.2+2))
 (Vs o28.e
 ((ld true 3 (o28.t 2) o28.H).bind fun v47=>some (v47,o28.H,o28.n)))
theorem s103 (C:Zb)(L:Zc->Zc)(t:Tm)(H:Hp)(n:Nat):Zq Tryz.prog C L Tryz.f103 t H n=S103 C L t H n:=by kernel_rfl
theorem c103 (args:List Value)(H:Hp)(n:Nat):Call Tryz.prog 103 args H n=S103 (Call Tryz.prog) Zm (Zp args) H n:=(Zg Tryz.func103 args H n).trans (s103 ..)
noncomputable def S104 (C:Zb)(L:Zc->Zc)(t:Tm)(H:Hp)(n:Nat):Option (Value × Hp × Nat) :=
 (Zs (t 0)).bind fun c2=>let H1:=H.set (n) (some (.row c2 0 true))
 let H3:=H1.set (n+1) (some (.row [nilS,.int .i64 0,.int .i64 0,.int .i64 0,.int .i64 0,.int .i64 0,.int .i64 0,.int .i64 0] 0 true))
 (ld true 3 (ptr (n) 0) H3).bind fun v4=>(C 80 [v4,t 1] H3 (n+7)).bind fun q5=>(ld true 3 (ptr (n) 0) q5.2.1).bind fun v6=>(C 44 [v6] q5.2.1 (q5.2.2+16)).bind fun q7=>(un .not q7.1).bind fun v8=>let t10:Tm:=put (put (put (put (put (put (put (put (put (put (put t 2 (ptr (n) 0)) 4 (ptr (n+1) 0)) 5 (.bool false)) 8 v4) 9 (t 1)) 10 q5.1) 6 q5.1) 11 v6) 12 q7.1) 13 v8) 14 v8
 (gsel v8 false
 ((Zd .plain .lss q5.1 (.int .i64 0)).bind fun v11=>some (put (put t10 15 q5.1) 16 v11,q7.2.1,q7.2.2))
 (some (put (put t10 15 (.tuple #[])) 16 (.tuple #[]),q7.2.1,q7.2.2))
 ).bind fun(q9:R3)=>(Zl (q9.1 14) (.bool true) (q9.1 16)).bind fun v12=>let t14:Tm:=put (put q9.1 17 v12) 18 v12
 (gsel v12 false
 ((Za 2 (t14 2)).bind fun v15=>(ld false 1 v15 q9.2.1).bind fun v16=>(Zo 3 v16 (t14 6)).bind fun v17=>(Za 2 v17).bind fun v18=>(ld false 1 v18 q9.2.1).bind fun v19=>(Zd .plain .neq v19 (.int .i64 0)).bind fun v20=>some (put (put (put (put (put (put (put t14 19 v15) 20 v16) 21 (t14 6)) 22 v17) 23 v18) 24 v19) 25 v20,q9.2.1,q9.2.2))
 (some (put (put (put (put (put (put (put t14 19 (.tuple #[])) 20 (.tuple #[])) 21 (.tuple #[])) 22 (.tuple #[])) 23 (.tuple #[])) 24 (.tuple #[])) 25 (.tuple #[]),q9.2.1,q9.2.2))
 ).bind fun(q13:R3)=>(Zl (q13.1 18) (.bool true) (q13.1 25)).bind fun v21=>csel v21
 ((Xf [nilS,.int .i64 0,.int .i64 0,.int .i64 0,.int .i64 0,.int .i64 0,.int .i64 0,.int .i64 0] []).bind fun v22=>(st true 8 (q13.1 4) v22 q13.2.1).bind fun H23=>(ld true 8 (q13.1 4) H23).bind fun v24=>Yr ([v24,.bool false].all notTup) <|some (.tuple ⟨[v24,.bool false]⟩,H23,q13.2.2+3))
 ((Xf [.int .i64 0,.int .i64 0,.string ⟨#[]⟩,.int .i64 0,.int .i64 0] [(0,1,.int .i64 1)]).bind fun v25=>(Xf [.int .i64 0,.int .i64 0,.string ⟨#[]⟩,.int .i64 0,.int .i64 0] [(0,1,.int .i64 5)]).bind fun v26=>(Xx (q13.2.2+2) 5 2 [.int .i64 0,.int .i64 0,.string ⟨#[]⟩,.int .i64 0,.int .i64 0] [(0,5,v25),(5,5,v26)] q13.2.1).bind fun p27=>(Xf [nilS] [(0,1,p27.1)]).bind fun v28=>let H29:=p27.2.set (q13.2.2+4) (some (.row [nilS] 0 true))
 (st true 1 (ptr (q13.2.2+4) 0) v28 H29).bind fun H30=>(ld true 1 (ptr (q13.2.2+4) 0) H30).bind fun v31=>(Za 2 (q13.1 2)).bind fun v32=>(ld false 1 v32 H30).bind fun v33=>(Zo 3 v33 (q13.1 6)).bind fun v34=>(Za 1 v34).bind fun v35=>(ld false 1 v35 H30).bind fun v36=>(Xf [nilS,.int .i64 0,.int .i64 0,.int .i64 0,.int .i64 0,.int .i64 0,.int .i64 0,.int .i64 0] [(0,1,v31),(1,1,v36),(3,1,.int .i64 1)]).bind fun v37=>(st true 8 (q13.1 4) v37 H30).bind fun H38=>(ld true 8 (q13.1 4) H38).bind fun v39=>Yr ([v39,.bool true].all notTup) <|some (.tuple ⟨[v39,.bool true]⟩,H38,q13.2.2+16))
theorem s104 (C:Zb)(L:Zc->Zc)(t:Tm)(H:Hp)(n:Nat):Zq Tryz.prog C L Tryz.f104 t H n=S104 C L t H n:=by kernel_rfl
theorem c104 (args:List Value)(H:Hp)(n:Nat):Call Tryz.prog 104 args H n=S104 (Call Tryz.prog) Zm (Zp args) H n:=(Zg Tryz.func104 args H n).trans (s104 ..)
noncomputable def S105 (C:Zb)(L:Zc->Zc)(t:Tm)(H:Hp)(n:Nat):Option (Value × Hp × Nat) :=
 (Zs (t 0)).bind fun c2=>let H1:=H.set (n) (some (.row c2 0 true))
 (Zs (t 1)).bind fun c4=>let H3:=H1.set (n+1) (some (.row c4 0 true))
 let H5:=H3.set (n+2) (some (.row [nilS,.int .i64 0,.int .i64 0,.int .i64 0,.int .i64 0,.int .i64 0,.int .i64 0,.int .i64 0] 0 true))
 (ld true 3 (ptr (n) 0) H5).bind fun v6=>(C 44 [v6] H5 (n+25)).bind fun q7=>(un .not q7.1).bind fun v8=>let t10:Tm:=put (put (put (put (put (put (put (put t 3 (ptr (n) 0)) 4 (ptr (n+1) 0)) 6 (ptr (n+2) 0)) 7 (.bool false)) 12 v6) 13 q7.1) 14 v8) 15 v8
 (gsel v8 false
 ((ld true 1 (ptr (n+1) 0) q7.2.1).bind fun v11=>(C 45 [v11] q7.2.1 (q7.2.2)).bind fun q12=>(un .not q12.1).bind fun v13=>some (put (put (put t10 16 v11) 17 q12.1) 18 v13,q12.2.1,q12.2.2))
 (some (put (put (put t10 16 (.tuple #[])) 17 (.tuple #[])) 18 (.tuple #[]),q7.2.1,q7.2.2))
 ).bind fun(q9:R3)=>(Zl (q9.1 15) (.bool true) (q9.1 18)).bind fun v14=>let t16:Tm:=put (put q9.1 19 v14) 20 v14
 (gsel v14 false
 ((ld true 1 (t16 4) q9.2.1).bind fun v17=>(C 46 [v17,t16 2] q9.2.1 (q9.2.2)).bind fun q18=>(un .not q18.1).bind fun v19=>some (put (put (put (put t16 21 v17) 22 (t16 2)) 23 q18.1) 24 v19,q18.2.1,q18.2.2))
 (some (put (put (put (put t16 21 (.tuple #[])) 22 (.tuple #[])) 23 (.tuple #[])) 24 (.tuple #[]),q9.2.1,q9.2.2))
 ).bind fun(q15:R3)=>(Zl (q15.1 20) (.bool true) (q15.1 24)).bind fun v20=>let t22:Tm:=put (put q15.1 25 v20) 26 v20
 (gsel v20 false
 ((Za 0 (t22 4)).bind fun v23=>(ld false 1 v23 q15.2.1).bind fun v24=>(Zx false v24).bind fun v25=>(Zd .plain .add v25 (.int .i64 2)).bind fun v26=>(Zd .plain .gtr v26 (.int .i64 3000)).bind fun v27=>some (put (put (put (put (put t22 27 v23) 28 v24) 29 v25) 30 v26) 31 v27,q15.2.1,q15.2.2))
 (some (put (put (put (put (put t22 27 (.tuple #[])) 28 (.tuple #[])) 29 (.tuple #[])) 30 (.tuple #[])) 31 (.tuple #[]),q15.2.1,q15.2.2))
 ).bind fun(q21:R3)=>(Zl (q21.1 26) (.bool true) (q21.1 31)).bind fun v28=>csel v28
 ((Xf [nilS,.int .i64 0,.int .i64 0,.int .i64 0,.int .i64 0,.int .i64 0,.int .i64 0,.int .i64 0] []).bind fun v29=>(st true 8 (q21.1 6) v29 q21.2.1).bind fun H30=>(ld true 8 (q21.1 6) H30).bind fun v31=>Yr ([v31,.bool false].all notTup) <|some (.tuple ⟨[v31,.bool false]⟩,H30,q21.2.2+3))
 ((Za 0 (q21.1 4)).bind fun v32=>(ld false 1 v32 q21.2.1).bind fun v33=>(Zo 5 v33 (q21.1 2)).bind fun v34=>(ld true 5 v34 q21.2.1).bind fun v35=>let H36:=q21.2.1.set (q21.2.2+5) (some (.row [.int .i64 0,.int .i64 0,.string ⟨#[]⟩,.int .i64 0,.int .i64 0] 0 true))
 (st true 5 (ptr (q21.2.2+5) 0) v35 H36).bind fun H37=>(Za 0 (ptr (q21.2.2+5) 0)).bind fun v38=>(ld false 1 v38 H37).bind fun v39=>(Zd .plain .neq v39 (.int .i64 6)).bind fun v40=>let t42:Tm:=put (put (put (put (put (put (put (put (put (put (put q21.1 32 v28) 34 v32) 35 v33) 36 (q21.1 2)) 37 v34) 38 v35) 8 (ptr (q21.2.2+5) 0)) 39 v38) 40 v39) 41 v40) 42 v40
 (gsel v40 false
 ((Za 1 (ptr (q21.2.2+5) 0)).bind fun v43=>(ld false 1 v43 H37).bind fun v44=>(Zd .plain .rem v44 (.int .i64 8)).bind fun v45=>(Zd .plain .neq v45 (.int .i64 0)).bind fun v46=>some (put (put (put (put t42 43 v43) 44 v44) 45 v45) 46 v46,H37,q21.2.2+25))
 (some (put (put (put (put t42 43 (.tuple #[])) 44 (.tuple #[])) 45 (.tuple #[])) 46 (.tuple #[]),H37,q21.2.2+25))
 ).bind fun(q41:R3)=>(Zl (q41.1 42) (.bool true) (q41.1 46)).bind fun v47=>let t49:Tm:=put (put q41.1 47 v47) 48 v47
 (gsel v47 false
 ((Za 1 (t49 8)).bind fun v50=>(ld false 1 v50 q41.2.1).bind fun v51=>(Zd .plain .quo v51 (.int .i64 8)).bind fun v52=>(Za 1 (t49 3)).bind fun v53=>(ld false 1 v53 q41.2.1).bind fun v54=>(Zx false v54).bind fun v55=>(Zd .plain .geq v52 v55).bind fun v56=>some (put (put (put (put (put (put (put t49 49 v50) 50 v51) 51 v52) 52 v53) 53 v54) 54 v55) 55 v56,q41.2.1,q41.2.2))
 (some (put (put (put (put (put (put (put t49 49 (.tuple #[])) 50 (.tuple #[])) 51 (.tuple #[])) 52 (.tuple #[])) 53 (.tuple #[])) 54 (.tuple #[])) 55 (.tuple #[]),q41.2.1,q41.2.2))
 ).bind fun(q48:R3)=>(Zl (q48.1 48) (.bool true) (q48.1 55)).bind fun v57=>csel v57
 ((Xf [nilS,.int .i64 0,.int .i64 0,.int .i64 0,.int .i64 0,.int .i64 0,.int .i64 0,.int .i64 0] []).bind fun v58=>(st true 8 (q48.1 6) v58 q48.2.1).bind fun H59=>(ld true 8 (q48.1 6) H59).bind fun v60=>Yr ([v60,.bool false].all notTup) <|some (.tuple ⟨[v60,.bool false]⟩,H59,q48.2.2+3))
 ((ld true 1 (q48.1 4) q48.2.1).bind fun v61=>(C 51 [v61] q48.2.1 (q48.2.2+4)).bind fun q62=>let H63:=q62.2.1.set (q48.2.2+2) (some (.row [nilS] 0 true))
 (st true 1 (ptr (q48.2.2+2) 0) q62.1 H63).bind fun H64=>(Xf [.int .i64 0,.int .i64 0,.string ⟨#[]⟩,.int .i64 0,.int .i64 0] [(0,1,.int .i64 1)]).bind fun v65=>(C 88 [ptr (q48.2.2+2) 0,v65] H64 (q62.2.2+3)).bind fun q66=>(Za 3 (q48.1 8)).bind fun v67=>(ld false 1 v67 q66.2.1).bind fun v68=>(Xf [.int .i64 0,.int .i64 0,.string ⟨#[]⟩,.int .i64 0,.int .i64 0] [(0,1,.int .i64 5),(3,1,q66.1),(4,1,v68)]).bind fun v69=>(C 88 [ptr (q48.2.2+2) 0,v69] q66.2.1 (q66.2.2+6)).bind fun q70=>(ld true 1 (ptr (q48.2.2+2) 0) q70.2.1).bind fun v71=>(Za 1 (q48.1 8)).bind fun v72=>(ld false 1 v72 q70.2.1).bind fun v73=>(Zd .plain .quo v73 (.int .i64 8)).bind fun v74=>(Xf [nilS,.int .i64 0,.int .i64 0,.int .i64 0,.int .i64 0,.int .i64 0,.int .i64 0,.int .i64 0] [(0,1,v71),(1,1,v74),(2,1,q66.1),(3,1,q70.1),(4,1,q66.1)]).bind fun v75=>(st true 8 (q48.1 6) v75 q70.2.1).bind fun H76=>(ld true 8 (q48.1 6) H76).bind fun v77=>Yr ([v77,.bool true].all notTup) <|some (.tuple ⟨[v77,.bool true]⟩,H76,q70.2.2+10)))
theorem s105 (C:Zb)(L:Zc->Zc)(t:Tm)(H:Hp)(n:Nat):Zq Tryz.prog C L Tryz.f105 t H n=S105 C L t H n:=by kernel_rfl
theorem c105 (args:List Value)(H:Hp)(n:Nat):Call Tryz.prog 105 args H n=S105 (Call Tryz.prog) Zm (Zp args) H n:=(Zg Tryz.func105 args H n).trans (s105 ..)
noncomputable def S106L0 (C:Zb)(L:Zc->Zc):Zc:=fun t H n=>(Zd .plain .lss (t 9) (t 3)).bind fun v7=>csel v7
 (let t9:Tm:=put (put (put t 10 (t 9)) 11 (t 3)) 12 v7
 Option.bind
 ((Za 5 (t9 6)).bind fun v10=>(ld false 1 v10 H).bind fun v11=>(Zd .plain .eql v11 (.int .i64 1)).bind fun v12=>csel v12
 ((ld true 3 (t9 5) H).bind fun v13=>(ld true 8 (t9 6) H).bind fun v14=>(C 133 [t9 0] H (n+14)).bind fun q15=>ask (ld true 8 (t9 6) q15.2.1=some v14) <|ask (ld true 3 (t9 5) q15.2.1=some v13) <|(Xx (n+10) 5 1 [.int .i64 0,.int .i64 0,.string ⟨#[]⟩,.int .i64 0,.int .i64 0] [(0,5,q15.1)] q15.2.1).bind fun p16=>(Xf [nilS] [(0,1,p16.1)]).bind fun v17=>(C 132 [v13,v14,v17,.int .i64 0] p16.2 (q15.2.2)).bind fun q18=>(st true 8 (t9 6) q18.1 q18.2.1).bind fun H19=>some ⟨(.exit 1),put (put (put (put (put (put (put (put (put (put t9 15 v10) 16 v11) 17 v12) 18 v13) 19 v14) 20 (t9 0)) 21 q15.1) 22 p16.1) 23 v17) 24 q18.1,H19,q18.2.2⟩)
 ((ld true 3 (t9 5) H).bind fun v20=>(ld true 8 (t9 6) H).bind fun v21=>(C 7 [v20,v21] H (n+10)).bind fun q22=>(st true 8 (t9 6) q22.1 q22.2.1).bind fun H23=>some ⟨.normal,put (put (put (put (put (put t9 15 v10) 16 v11) 17 v12) 25 v20) 26 v21) 27 q22.1,H23,q22.2.2⟩))
 fun(o8:Out)=>(Zd .plain .add (o8.t 9) (.int .i64 1)).bind fun v24=>some ⟨.normal,put (put (put o8.t 13 (o8.t 9)) 14 v24) 9 v24,o8.H,o8.n+3⟩)
 (some ⟨(.exit 0),put (put (put t 10 (t 9)) 11 (t 3)) 12 v7,H,n+3⟩)
noncomputable def S106 (C:Zb)(L:Zc->Zc)(t:Tm)(H:Hp)(n:Nat):Option (Value × Hp × Nat) :=
 (Zs (t 1)).bind fun c2=>let H1:=H.set (n) (some (.row c2 0 true))
 (Zs (t 2)).bind fun c4=>let H3:=H1.set (n+1) (some (.row c4 0 true))
 let H5:=H3.set (n+2) (some (.row [nilS,.int .i64 0,.int .i64 0,.int .i64 0,.int .i64 0,.int .i64 0,.int .i64 0,.int .i64 0] 0 true))
 (L (S106L0 C L) (put (put (put (put t 5 (ptr (n) 0)) 6 (ptr (n+1) 0)) 8 (ptr (n+2) 0)) 9 (.int .i64 0)) H5 (n+4)).bind fun(o6:Out)=>(ld true 8 (o6.t 6) o6.H).bind fun v25=>(st true 8 (o6.t 8) v25 o6.H).bind fun H26=>(ld true 8 (o6.t 8) H26).bind fun v27=>some (v27,H26,o6.n+2)
theorem s106 (C:Zb)(L:Zc->Zc)(t:Tm)(H:Hp)(n:Nat):Zq Tryz.prog C L Tryz.f106 t H n=S106 C L t H n:=by kernel_rfl
theorem c106 (args:List Value)(H:Hp)(n:Nat):Call Tryz.prog 106 args H n=S106 (Call Tryz.prog) Zm (Zp args) H n:=(Zg Tryz.func106 args H n).trans (s106 ..)
noncomputable def S107 (C:Zb)(L:Zc->Zc)(t:Tm)(H:Hp)(n:Nat):Option (Value × Hp × Nat) :=
 (Zh (t 0)).bind fun v1=>(Za 2 v1).bind fun v2=>(ld false 1 v2 H).bind fun v3=>(Zd .plain .mul v3 (.int .i64 6364136223846793005)).bind fun v4=>(Zd .plain .add v4 (.int .i64 1442695040888963407)).bind fun v5=>(Zh (t 0)).bind fun v6=>(Za 2 v6).bind fun v7=>(st false 1 v7 v5 H).bind fun H8=>(Zh (t 0)).bind fun v9=>(Za 2 v9).bind fun v10=>(ld false 1 v10 H8).bind fun v11=>(Zd .plain .shr v11 (.int .u64 33)).bind fun v12=>(Zh (t 0)).bind fun v13=>(Za 2 v13).bind fun v14=>(ld false 1 v14 H8).bind fun v15=>(Zd .plain .shr v15 (.int .u64 45)).bind fun v16=>(Zd .plain .xor v12 v16).bind fun v17=>(Zd .plain .and v17 (.int .i64 255)).bind fun v18=>(Zh (t 0)).bind fun v19=>(Za 1 v19).bind fun v20=>(ld false 1 v20 H8).bind fun v21=>(Zh (t 0)).bind fun v22=>(Za 0 v22).bind fun v23=>(ld false 1 v23 H8).bind fun v24=>(Zx false v24).bind fun v25=>(Zd .plain .lss v21 v25).bind fun v26=>let t28:Tm:=put (put (put (put (put (put (put (put (put (put (put (put (put (put (put (put (put (put (put (put (put (put (put (put (put (put (put (put (put (put (put (put (put t 2 (.int .i64 0)) 4 (t 0)) 5 (t 0)) 6 v1) 7 v2) 8 v3) 9 v4) 10 v5) 11 v6) 12 v7) 13 (t 0)) 14 v9) 15 v10) 16 v11) 17 v12) 18 (t 0)) 19 v13) 20 v14) 21 v15) 22 v16) 23 v17) 24 v18) 3 v18) 25 (t 0)) 26 v19) 27 v20) 28 v21) 29 (t 0)) 30 v22) 31 v23) 32 v24) 33 v25) 34 v26
 (csel v26
 ((Zh (t28 0)).bind fun v29=>(Za 0 v29).bind fun v30=>(ld false 1 v30 H8).bind fun v31=>(Zh (t28 0)).bind fun v32=>(Za 1 v32).bind fun v33=>(ld false 1 v33 H8).bind fun v34=>(Zo 1 v31 v34).bind fun v35=>(ld false 1 v35 H8).bind fun v36=>(conv (.toInt .i64) (n+45) v36 H8).bind fun p37=>(Zd .plain .add v18 p37.1).bind fun v38=>(Zd .plain .and v38 (.int .i64 255)).bind fun v39=>(Zh (t28 0)).bind fun v40=>(Za 1 v40).bind fun v41=>(ld false 1 v41 p37.2).bind fun v42=>(Zd .plain .add v42 (.int .i64 1)).bind fun v43=>(Zh (t28 0)).bind fun v44=>(Za 1 v44).bind fun v45=>(st false 1 v45 v43 p37.2).bind fun H46=>some ⟨.normal,put (put (put (put (put (put (put (put (put (put (put (put (put (put (put (put (put (put (put (put (put (put (put t28 35 v18) 36 (t28 0)) 37 v29) 38 v30) 39 v31) 40 (t28 0)) 41 v32) 42 v33) 43 v34) 44 v35) 45 v36) 46 p37.1) 47 v38) 48 v39) 3 v39) 49 (t28 0)) 50 (t28 0)) 51 v40) 52 v41) 53 v42) 54 v43) 55 v44) 56 v45,H46,n+58⟩)
 (some ⟨.normal,t28,H8,n+34⟩)
 ).bind fun(o27:Out)=>some (o27.t 3,o27.H,o27.n+2)
theorem s107 (C:Zb)(L:Zc->Zc)(t:Tm)(H:Hp)(n:Nat):Zq Tryz.prog C L Tryz.f107 t H n=S107 C L t H n:=by kernel_rfl
theorem c107 (args:List Value)(H:Hp)(n:Nat):Call Tryz.prog 107 args H n=S107 (Call Tryz.prog) Zm (Zp args) H n:=(Zg Tryz.func107 args H n).trans (s107 ..)
noncomputable def S108 (C:Zb)(L:Zc->Zc)(t:Tm)(H:Hp)(n:Nat):Option (Value × Hp × Nat) :=
 (C 69 [t 0,t 1] H (n+6)).bind fun q1=>(Zd .plain .eql q1.1 (.int .i64 0)).bind fun v2=>some (v2,q1.2.1,q1.2.2)
theorem s108 (C:Zb)(L:Zc->Zc)(t:Tm)(H:Hp)(n:Nat):Zq Tryz.prog C L Tryz.f108 t H n=S108 C L t H n:=by kernel_rfl
theorem c108 (args:List Value)(H:Hp)(n:Nat):Call Tryz.prog 108 args H n=S108 (Call Tryz.prog) Zm (Zp args) H n:=(Zg Tryz.func108 args H n).trans (s108 ..)
noncomputable def S109 (C:Zb)(L:Zc->Zc)(t:Tm)(H:Hp)(n:Nat):Option (Value × Hp × Nat) :=
 (Zd .plain .lss (t 0) (t 1)).bind fun v1=>csel v1
 (some (t 0,H,n+6))
 (some (t 1,H,n+6))
theorem s109 (C:Zb)(L:Zc->Zc)(t:Tm)(H:Hp)(n:Nat):Zq Tryz.prog C L Tryz.f109 t H n=S109 C L t H n:=by kernel_rfl
theorem c109 (args:List Value)(H:Hp)(n:Nat):Call Tryz.prog 109 args H n=S109 (Call Tryz.prog) Zm (Zp args) H n:=(Zg Tryz.func109 args H n).trans (s109 ..)
noncomputable def S110 (C:Zb)(L:Zc->Zc)(t:Tm)(H:Hp)(n:Nat):Option (Value × Hp × Nat) :=
 (Zx false (t 1)).bind fun v1=>(C 69 [t 0,v1] H (n+9)).bind fun q2=>(Zo 1 (t 1) q2.1).bind fun v3=>(ld false 1 v3 q2.2.1).bind fun v4=>some (v4,q2.2.1,q2.2.2)
theorem s110 (C:Zb)(L:Zc->Zc)(t:Tm)(H:Hp)(n:Nat):Zq Tryz.prog C L Tryz.f110 t H n=S110 C L t H n:=by kernel_rfl
theorem c110 (args:List Value)(H:Hp)(n:Nat):Call Tryz.prog 110 args H n=S110 (Call Tryz.prog) Zm (Zp args) H n:=(Zg Tryz.func110 args H n).trans (s110 ..)
noncomputable def S111L0 (C:Zb)(L:Zc->Zc):Zc:=fun t H n=>(Zd .plain .lss (t 5) (t 4)).bind fun v7=>csel v7
 ((C 134 [t 0,t 5] H (n+7)).bind fun q8=>(C 88 [t 3,q8.1] q8.2.1 (q8.2.2)).bind fun q9=>(Zd .plain .add (t 5) (.int .i64 1)).bind fun v10=>some ⟨.normal,put (put (put (put (put (put (put (put (put (put t 9 (t 5)) 10 (t 4)) 11 v7) 14 (t 0)) 15 (t 5)) 16 q8.1) 17 q9.1) 12 (t 5)) 13 v10) 5 v10,q9.2.1,q9.2.2+3⟩)
 (some ⟨(.exit 0),put (put (put t 9 (t 5)) 10 (t 4)) 11 v7,H,n+3⟩)
noncomputable def S111 (C:Zb)(L:Zc->Zc)(t:Tm)(H:Hp)(n:Nat):Option (Value × Hp × Nat) :=
 let H1:=H.set (n) (some (.row [nilS] 0 true))
 (Xf [nilS] []).bind fun v2=>let H3:=H1.set (n+2) (some (.row [nilS] 0 true))
 (st true 1 (ptr (n+2) 0) v2 H3).bind fun H4=>(C 69 [t 0,.int .i64 16] H4 (n+7)).bind fun q5=>(L (S111L0 C L) (put (put (put (put (put (put (put t 2 (ptr (n) 0)) 6 v2) 3 (ptr (n+2) 0)) 7 (t 0)) 8 q5.1) 4 q5.1) 5 (.int .i64 0)) q5.2.1 (q5.2.2+1)).bind fun(o6:Out)=>(ld true 1 (o6.t 3) o6.H).bind fun v11=>(st true 1 (o6.t 2) v11 o6.H).bind fun H12=>(ld true 1 (o6.t 2) H12).bind fun v13=>some (v13,H12,o6.n+2)
theorem s111 (C:Zb)(L:Zc->Zc)(t:Tm)(H:Hp)(n:Nat):Zq Tryz.prog C L Tryz.f111 t H n=S111 C L t H n:=by kernel_rfl
theorem c111 (args:List Value)(H:Hp)(n:Nat):Call Tryz.prog 111 args H n=S111 (Call Tryz.prog) Zm (Zp args) H n:=(Zg Tryz.func111 args H n).trans (s111 ..)
noncomputable def S112 (C:Zb)(L:Zc->Zc)(t:Tm)(H:Hp)(n:Nat):Option (Value × Hp × Nat) :=
 (Zs (t 1)).bind fun c2=>let H1:=H.set (n) (some (.row c2 0 true))
 let H3:=H1.set (n+1) (some (.row [.int .i64 0,.int .i64 0,.string ⟨#[]⟩,.int .i64 0,.int .i64 0] 0 true))
 (C 69 [t 0,.int .i64 8] H3 (n+4)).bind fun q4=>(Zd .plain .eql q4.1 (.int .i64 0)).bind fun v5=>let t7:Tm:=put (put (put (put (put (put t 3 (ptr (n) 0)) 4 (ptr (n+1) 0)) 5 (t 0)) 6 q4.1) 8 v5) 7 v5
 (csel v5
 ((C 69 [t7 0,.int .i64 11] q4.2.1 (q4.2.2+6)).bind fun q8=>(Za 0 (ptr (n) 0)).bind fun v9=>(st false 1 v9 q8.1 q8.2.1).bind fun H10=>some ⟨.normal,put (put (put t7 9 (t7 0)) 10 q8.1) 11 v9,H10,q8.2.2⟩)
 ((Zd .plain .eql q4.1 (.int .i64 1)).bind fun v11=>let t13:Tm:=put (put t7 13 v11) 12 v11
 (csel v11
 ((C 69 [t13 0,.int .i64 20] q4.2.1 (q4.2.2+9)).bind fun q14=>(Zd .plain .sub q14.1 (.int .i64 1)).bind fun v15=>(Za 3 (ptr (n) 0)).bind fun v16=>(st false 1 v16 v15 q14.2.1).bind fun H17=>some ⟨.normal,put (put (put (put t13 14 (t13 0)) 15 q14.1) 16 v15) 17 v16,H17,q14.2.2⟩)
 ((Zd .plain .eql q4.1 (.int .i64 2)).bind fun v18=>let t20:Tm:=put (put t13 19 v18) 18 v18
 (csel v18
 ((C 69 [t20 0,.int .i64 20] q4.2.1 (q4.2.2+11)).bind fun q21=>(Zd .plain .sub q21.1 (.int .i64 1)).bind fun v22=>(Za 4 (ptr (n) 0)).bind fun v23=>(st false 1 v23 v22 q21.2.1).bind fun H24=>some ⟨.normal,put (put (put (put t20 20 (t20 0)) 21 q21.1) 22 v22) 23 v23,H24,q21.2.2⟩)
 ((Zd .plain .eql q4.1 (.int .i64 3)).bind fun v25=>let t27:Tm:=put (put t20 25 v25) 24 v25
 (csel v25
 ((Xx (q4.2.2+9) 1 8 [.int .i64 0] [(0,1,.int .i64 (-1)),(1,1,.int .i64 2),(2,1,.int .i64 99),(3,1,.int .i64 100),(4,1,.int .i64 1000000000),(5,1,.int .i64 1000000001),(6,1,.int .i64 (-1000000000)),(7,1,.int .i64 (-1000000001))] q4.2.1).bind fun p28=>(C 70 [t27 0,p28.1] p28.2 (q4.2.2+13)).bind fun q29=>(Za 1 (ptr (n) 0)).bind fun v30=>(st false 1 v30 q29.1 q29.2.1).bind fun H31=>some ⟨.normal,put (put (put (put t27 26 (t27 0)) 27 p28.1) 28 q29.1) 29 v30,H31,q29.2.2⟩)
 ((Zd .plain .eql q4.1 (.int .i64 4)).bind fun v32=>let t34:Tm:=put (put t27 31 v32) 30 v32
 (csel v32
 ((Xx (q4.2.2+11) 1 6 [.string ⟨#[]⟩] [(0,1,.string ⟨#[]⟩),(1,1,.string ⟨#[97]⟩),(2,1,.string ⟨#[65,98]⟩),(3,1,.string ⟨#[97,98,99,100,101,102,103,104,105,106,107,108]⟩),(4,1,.string ⟨#[97,98,99,100,101,102,103,104,105,106,107,108,109]⟩),(5,1,.string ⟨#[97,49]⟩)] q4.2.1).bind fun p35=>(C 110 [t34 0,p35.1] p35.2 (q4.2.2+15)).bind fun q36=>(Za 2 (ptr (n) 0)).bind fun v37=>(st false 1 v37 q36.1 q36.2.1).bind fun H38=>some ⟨.normal,put (put (put (put t34 32 (t34 0)) 33 p35.1) 34 q36.1) 35 v37,H38,q36.2.2⟩)
 (some ⟨.normal,t34,q4.2.1,q4.2.2+10⟩)
 ).bind fun(o33:Out)=>some ⟨.normal,o33.t,o33.H,o33.n⟩)
 ).bind fun(o26:Out)=>some ⟨.normal,o26.t,o26.H,o26.n⟩)
 ).bind fun(o19:Out)=>some ⟨.normal,o19.t,o19.H,o19.n⟩)
 ).bind fun(o12:Out)=>some ⟨.normal,o12.t,o12.H,o12.n⟩)
 ).bind fun(o6:Out)=>(ld true 5 (o6.t 3) o6.H).bind fun v39=>(st true 5 (o6.t 4) v39 o6.H).bind fun H40=>(ld true 5 (o6.t 4) H40).bind fun v41=>some (v41,H40,o6.n+2)
theorem s112 (C:Zb)(L:Zc->Zc)(t:Tm)(H:Hp)(n:Nat):Zq Tryz.prog C L Tryz.f112 t H n=S112 C L t H n:=by kernel_rfl
theorem c112 (args:List Value)(H:Hp)(n:Nat):Call Tryz.prog 112 args H n=S112 (Call Tryz.prog) Zm (Zp args) H n:=(Zg Tryz.func112 args H n).trans (s112 ..)
noncomputable def S113 (C:Zb)(L:Zc->Zc)(t:Tm)(H:Hp)(n:Nat):Option (Value × Hp × Nat) :=
 (Zd .plain .geq (t 0) (.int .u8 97)).bind fun v1=>let t3:Tm:=put (put (put (put t 2 (.bool false)) 3 (t 0)) 4 v1) 5 v1
 (gsel v1 true
 ((Zd .plain .leq (t3 0) (.int .u8 122)).bind fun v4=>some (put (put t3 6 (t3 0)) 7 v4,H,n+14))
 (some (put (put t3 6 (.tuple #[])) 7 (.tuple #[]),H,n+14))
 ).bind fun(q2:R3)=>(Zl (q2.1 5) (q2.1 7) (.bool false)).bind fun v5=>let t7:Tm:=put (put q2.1 8 v5) 9 v5
 (gsel v5 false
 ((Xx (n+8) 1 8 [.int .u8 0] [(0,1,.int .u8 43),(1,1,.int .u8 45),(2,1,.int .u8 42),(3,1,.int .u8 60),(4,1,.int .u8 61),(5,1,.int .u8 63),(6,1,.int .u8 33),(7,1,.int .u8 47)] q2.2.1).bind fun p8=>(conv .mark (n+9) p8.1 p8.2).bind fun p9=>(C 135 [p9.1,t7 0] p9.2 (q2.2.2)).bind fun q10=>some (put (put (put (put t7 10 p8.1) 11 p9.1) 12 (t7 0)) 13 q10.1,q10.2.1,q10.2.2))
 (some (put (put (put (put t7 10 (.tuple #[])) 11 (.tuple #[])) 12 (.tuple #[])) 13 (.tuple #[]),q2.2.1,q2.2.2))
 ).bind fun(q6:R3)=>(Zl (q6.1 9) (.bool true) (q6.1 13)).bind fun v11=>some (v11,q6.2.1,q6.2.2)
theorem s113 (C:Zb)(L:Zc->Zc)(t:Tm)(H:Hp)(n:Nat):Zq Tryz.prog C L Tryz.f113 t H n=S113 C L t H n:=by kernel_rfl
theorem c113 (args:List Value)(H:Hp)(n:Nat):Call Tryz.prog 113 args H n=S113 (Call Tryz.prog) Zm (Zp args) H n:=(Zg Tryz.func113 args H n).trans (s113 ..)
noncomputable def S114L0 (C:Zb)(L:Zc->Zc):Zc:=fun t H n=>(Zd .plain .lss (t 8) (t 7)).bind fun v3=>csel v3
 ((Zo 3 (t 0) (t 8)).bind fun v4=>(ld true 3 v4 H).bind fun v5=>(calleeP (t 1) [v5]).bind fun c7=>(C c7.1 c7.2 H (n+9)).bind fun q6=>csel q6.1
 (some ⟨.ret,put (put (put (put (put (put (put (put (put (put (put t 9 v3) 10 (t 8)) 5 (t 8)) 11 (t 1)) 12 (t 0)) 13 (t 8)) 14 v4) 15 v5) 16 q6.1) 17 (t 8)) 4 (t 8),q6.2.1,q6.2.2+2⟩)
 ((Zd .plain .add (t 8) (.int .i64 1)).bind fun v8=>some ⟨.normal,put (put (put (put (put (put (put (put (put (put (put t 9 v3) 10 (t 8)) 5 (t 8)) 11 (t 1)) 12 (t 0)) 13 (t 8)) 14 v4) 15 v5) 16 q6.1) 18 v8) 8 v8,q6.2.1,q6.2.2+2⟩))
 (some ⟨(.exit 0),put t 9 v3,H,n+1⟩)
noncomputable def S114 (C:Zb)(L:Zc->Zc)(t:Tm)(H:Hp)(n:Nat):Option (Value × Hp × Nat) :=
 (Zx false (t 0)).bind fun v1=>(L (S114L0 C L) (put (put (put (put t 4 (.int .i64 0)) 6 (t 0)) 7 v1) 8 (.int .i64 0)) H (n+4)).bind fun(o2:Out)=>let o9:=outOf 0 o2
 Xe o9
 (some (.int .i64 (-1),o9.H,o9.n+1))
 (Vs o9.e
 (some (o9.t 4,o9.H,o9.n)))
theorem s114 (C:Zb)(L:Zc->Zc)(t:Tm)(H:Hp)(n:Nat):Zq Tryz.prog C L Tryz.f114 t H n=S114 C L t H n:=by kernel_rfl
theorem c114 (args:List Value)(H:Hp)(n:Nat):Call Tryz.prog 114 args H n=S114 (Call Tryz.prog) Zm (Zp args) H n:=(Zg Tryz.func114 args H n).trans (s114 ..)
noncomputable def S115 (C:Zb)(L:Zc->Zc)(t:Tm)(H:Hp)(n:Nat):Option (Value × Hp × Nat) :=
 (Zs (t 0)).bind fun c2=>let H1:=H.set (n) (some (.row c2 0 true))
 (Za 0 (ptr (n) 0)).bind fun v3=>(ld false 1 v3 H1).bind fun v4=>(ld false 1 (t 1) H1).bind fun v5=>(Zd .plain .eql v4 v5).bind fun v6=>some (v6,H1,n+7)
theorem s115 (C:Zb)(L:Zc->Zc)(t:Tm)(H:Hp)(n:Nat):Zq Tryz.prog C L Tryz.f115 t H n=S115 C L t H n:=by kernel_rfl
theorem c115 (args:List Value)(H:Hp)(n:Nat):Call Tryz.prog 115 args H n=S115 (Call Tryz.prog) Zm (Zp args) H n:=(Zg Tryz.func115 args H n).trans (s115 ..)
noncomputable def S116 (C:Zb)(L:Zc->Zc)(t:Tm)(H:Hp)(n:Nat):Option (Value × Hp × Nat) :=
 (Zd .plain .geq (t 0) (.int .u8 97)).bind fun v1=>let t3:Tm:=put (put (put (put t 2 (.bool false)) 3 (t 0)) 4 v1) 5 v1
 (gsel v1 true
 ((Zd .plain .leq (t3 0) (.int .u8 122)).bind fun v4=>some (put (put t3 6 (t3 0)) 7 v4,H,n+40))
 (some (put (put t3 6 (.tuple #[])) 7 (.tuple #[]),H,n+40))
 ).bind fun(q2:R3)=>(Zl (q2.1 5) (q2.1 7) (.bool false)).bind fun v5=>let t7:Tm:=put (put q2.1 8 v5) 9 v5
 (gsel v5 false
 ((Zd .plain .eql (t7 0) (.int .u8 43)).bind fun v8=>some (put (put t7 10 (t7 0)) 11 v8,q2.2.1,q2.2.2))
 (some (put (put t7 10 (.tuple #[])) 11 (.tuple #[]),q2.2.1,q2.2.2))
 ).bind fun(q6:R3)=>(Zl (q6.1 9) (.bool true) (q6.1 11)).bind fun v9=>let t11:Tm:=put (put q6.1 12 v9) 13 v9
 (gsel v9 false
 ((Zd .plain .eql (t11 0) (.int .u8 45)).bind fun v12=>some (put (put t11 14 (t11 0)) 15 v12,q6.2.1,q6.2.2))
 (some (put (put t11 14 (.tuple #[])) 15 (.tuple #[]),q6.2.1,q6.2.2))
 ).bind fun(q10:R3)=>(Zl (q10.1 13) (.bool true) (q10.1 15)).bind fun v13=>let t15:Tm:=put (put q10.1 16 v13) 17 v13
 (gsel v13 false
 ((Zd .plain .eql (t15 0) (.int .u8 42)).bind fun v16=>some (put (put t15 18 (t15 0)) 19 v16,q10.2.1,q10.2.2))
 (some (put (put t15 18 (.tuple #[])) 19 (.tuple #[]),q10.2.1,q10.2.2))
 ).bind fun(q14:R3)=>(Zl (q14.1 17) (.bool true) (q14.1 19)).bind fun v17=>let t19:Tm:=put (put q14.1 20 v17) 21 v17
 (gsel v17 false
 ((Zd .plain .eql (t19 0) (.int .u8 60)).bind fun v20=>some (put (put t19 22 (t19 0)) 23 v20,q14.2.1,q14.2.2))
 (some (put (put t19 22 (.tuple #[])) 23 (.tuple #[]),q14.2.1,q14.2.2))
 ).bind fun(q18:R3)=>(Zl (q18.1 21) (.bool true) (q18.1 23)).bind fun v21=>let t23:Tm:=put (put q18.1 24 v21) 25 v21
 (gsel v21 false
 ((Zd .plain .eql (t23 0) (.int .u8 61)).bind fun v24=>some (put (put t23 26 (t23 0)) 27 v24,q18.2.1,q18.2.2))
 (some (put (put t23 26 (.tuple #[])) 27 (.tuple #[]),q18.2.1,q18.2.2))
 ).bind fun(q22:R3)=>(Zl (q22.1 25) (.bool true) (q22.1 27)).bind fun v25=>let t27:Tm:=put (put q22.1 28 v25) 29 v25
 (gsel v25 false
 ((Zd .plain .eql (t27 0) (.int .u8 63)).bind fun v28=>some (put (put t27 30 (t27 0)) 31 v28,q22.2.1,q22.2.2))
 (some (put (put t27 30 (.tuple #[])) 31 (.tuple #[]),q22.2.1,q22.2.2))
 ).bind fun(q26:R3)=>(Zl (q26.1 29) (.bool true) (q26.1 31)).bind fun v29=>let t31:Tm:=put (put q26.1 32 v29) 33 v29
 (gsel v29 false
 ((Zd .plain .eql (t31 0) (.int .u8 33)).bind fun v32=>some (put (put t31 34 (t31 0)) 35 v32,q26.2.1,q26.2.2))
 (some (put (put t31 34 (.tuple #[])) 35 (.tuple #[]),q26.2.1,q26.2.2))
 ).bind fun(q30:R3)=>(Zl (q30.1 33) (.bool true) (q30.1 35)).bind fun v33=>let t35:Tm:=put (put q30.1 36 v33) 37 v33
 (gsel v33 false
 ((Zd .plain .eql (t35 0) (.int .u8 47)).bind fun v36=>some (put (put t35 38 (t35 0)) 39 v36,q30.2.1,q30.2.2))
 (some (put (put t35 38 (.tuple #[])) 39 (.tuple #[]),q30.2.1,q30.2.2))
 ).bind fun(q34:R3)=>(Zl (q34.1 37) (.bool true) (q34.1 39)).bind fun v37=>some (v37,q34.2.1,q34.2.2)
theorem s116 (C:Zb)(L:Zc->Zc)(t:Tm)(H:Hp)(n:Nat):Zq Tryz.prog C L Tryz.f116 t H n=S116 C L t H n:=by kernel_rfl
theorem c116 (args:List Value)(H:Hp)(n:Nat):Call Tryz.prog 116 args H n=S116 (Call Tryz.prog) Zm (Zp args) H n:=(Zg Tryz.func116 args H n).trans (s116 ..)
noncomputable def S117L0 (C:Zb)(L:Zc->Zc):Zc:=fun t H n=>(Za 0 (t 4)).bind fun v8=>(ld false 1 v8 H).bind fun v9=>(Zx false v9).bind fun v10=>(Zd .plain .lss (t 8) v10).bind fun v11=>csel v11
 (let t13:Tm:=put (put (put (put (put t 14 (t 8)) 15 v8) 16 v9) 17 v10) 18 v11
 Option.bind
 ((Zo 1 (t13 2) (t13 8)).bind fun v14=>(ld false 1 v14 H).bind fun v15=>(un .not v15).bind fun v16=>csel v16
 (some ⟨(.exit 1),put (put (put (put (put t13 21 (t13 2)) 22 (t13 8)) 23 v14) 24 v15) 25 v16,H,n+10⟩)
 ((Za 0 (t13 4)).bind fun v17=>(ld false 1 v17 H).bind fun v18=>(Zo 5 v18 (t13 8)).bind fun v19=>(ld true 5 v19 H).bind fun v20=>let H21:=H.set (n+15) (some (.row [.int .i64 0,.int .i64 0,.string ⟨#[]⟩,.int .i64 0,.int .i64 0] 0 true))
 (st true 5 (ptr (n+15) 0) v20 H21).bind fun H22=>(Za 0 (ptr (n+15) 0)).bind fun v23=>(ld false 1 v23 H22).bind fun v24=>(Zd .plain .eql v24 (.int .i64 5)).bind fun v25=>let t27:Tm:=put (put (put (put (put (put (put (put (put (put (put (put (put (put (put t13 21 (t13 2)) 22 (t13 8)) 23 v14) 24 v15) 25 v16) 26 v17) 27 v18) 28 (t13 8)) 29 v19) 30 v20) 9 (ptr (n+15) 0)) 31 v23) 32 v24) 34 v25) 33 v25
 (csel v25
 ((Za 3 (ptr (n+15) 0)).bind fun v28=>(ld false 1 v28 H22).bind fun v29=>(Zo 1 (t27 7) v29).bind fun v30=>(ld false 1 v30 H22).bind fun v31=>(Za 3 (ptr (n+15) 0)).bind fun v32=>(st false 1 v32 v31 H22).bind fun H33=>(Za 4 (ptr (n+15) 0)).bind fun v34=>(ld false 1 v34 H33).bind fun v35=>(Zo 1 (t27 7) v35).bind fun v36=>(ld false 1 v36 H33).bind fun v37=>(Za 4 (ptr (n+15) 0)).bind fun v38=>(st false 1 v38 v37 H33).bind fun H39=>some ⟨.normal,put (put (put (put (put (put (put (put (put (put (put (put t27 35 (t27 7)) 36 v28) 37 v29) 38 v30) 39 v31) 40 v32) 41 (t27 7)) 42 v34) 43 v35) 44 v36) 45 v37) 46 v38,H39,n+35⟩)
 ((Zd .plain .eql v24 (.int .i64 6)).bind fun v40=>let t42:Tm:=put (put t27 48 v40) 47 v40
 (csel v40
 (some ⟨.normal,t42,H22,n+23⟩)
 ((Zd .plain .eql v24 (.int .i64 7)).bind fun v43=>some ⟨.normal,put (put t42 49 v43) 47 v43,H22,n+25⟩)
 ).bind fun(o41:Out)=>(csel (o41.t 47)
 ((Za 3 (o41.t 9)).bind fun v46=>(ld false 1 v46 o41.H).bind fun v47=>(Zo 1 (o41.t 7) v47).bind fun v48=>(ld false 1 v48 o41.H).bind fun v49=>(Za 3 (o41.t 9)).bind fun v50=>(st false 1 v50 v49 o41.H).bind fun H51=>some ⟨.normal,put (put (put (put (put (put o41.t 50 (o41.t 7)) 51 v46) 52 v47) 53 v48) 54 v49) 55 v50,H51,o41.n+7⟩)
 (some ⟨.normal,o41.t,o41.H,o41.n⟩)
 ).bind fun(o44:Out)=>some ⟨.normal,o44.t,o44.H,o44.n⟩)
 ).bind fun(o26:Out)=>(ld true 5 (o26.t 9) o26.H).bind fun v52=>(C 88 [o26.t 0,v52] o26.H (o26.n+7)).bind fun q53=>(Zo 1 (o26.t 7) (o26.t 8)).bind fun v54=>(st false 1 v54 q53.1 q53.2.1).bind fun H55=>some ⟨.normal,put (put (put (put (put (put o26.t 56 (o26.t 7)) 57 (o26.t 8)) 58 (o26.t 0)) 59 v52) 60 q53.1) 61 v54,H55,q53.2.2⟩))
 fun(o12:Out)=>(Zd .plain .add (o12.t 8) (.int .i64 1)).bind fun v56=>some ⟨.normal,put (put (put o12.t 19 (o12.t 8)) 20 v56) 8 v56,o12.H,o12.n+3⟩)
 (some ⟨(.exit 0),put (put (put (put (put t 14 (t 8)) 15 v8) 16 v9) 17 v10) 18 v11,H,n+5⟩)
noncomputable def S117 (C:Zb)(L:Zc->Zc)(t:Tm)(H:Hp)(n:Nat):Option (Value × Hp × Nat) :=
 (Zs (t 1)).bind fun c2=>let H1:=H.set (n) (some (.row c2 0 true))
 (Za 0 (ptr (n) 0)).bind fun v3=>(ld false 1 v3 H1).bind fun v4=>(Zx false v4).bind fun v5=>(mks (n+5) 1 8 [.int .i64 0] v5 v5 H1).bind fun p6=>(L (S117L0 C L) (put (put (put (put (put (put (put (put t 4 (ptr (n) 0)) 6 nilS) 10 v3) 11 v4) 12 v5) 13 p6.1) 7 p6.1) 8 (.int .i64 0)) p6.2 (n+8)).bind fun(o7:Out)=>some (o7.t 7,o7.H,o7.n+2)
theorem s117 (C:Zb)(L:Zc->Zc)(t:Tm)(H:Hp)(n:Nat):Zq Tryz.prog C L Tryz.f117 t H n=S117 C L t H n:=by kernel_rfl
theorem c117 (args:List Value)(H:Hp)(n:Nat):Call Tryz.prog 117 args H n=S117 (Call Tryz.prog) Zm (Zp args) H n:=(Zg Tryz.func117 args H n).trans (s117 ..)
noncomputable def S118L1 (C:Zb)(L:Zc->Zc):Zc:=fun t H n=>(Zd .plain .geq (t 7) (.int .i64 0)).bind fun v20=>csel v20
 (let t22:Tm:=put (put t 29 (t 7)) 30 v20
 Option.bind
 ((Za 0 (t22 2)).bind fun v23=>(ld false 1 v23 H).bind fun v24=>(Zo 5 v24 (t22 7)).bind fun v25=>(ld true 5 v25 H).bind fun v26=>let H27:=H.set (n+7) (some (.row [.int .i64 0,.int .i64 0,.string ⟨#[]⟩,.int .i64 0,.int .i64 0] 0 true))
 (st true 5 (ptr (n+7) 0) v26 H27).bind fun H28=>(Zo 1 (t22 5) (t22 7)).bind fun v29=>(ld false 1 v29 H28).bind fun v30=>(un .not v30).bind fun v31=>csel v31
 (some ⟨(.exit 3),put (put (put (put (put (put (put (put (put (put (put t22 33 v23) 34 v24) 35 (t22 7)) 36 v25) 37 v26) 8 (ptr (n+7) 0)) 38 (t22 5)) 39 (t22 7)) 40 v29) 41 v30) 42 v31,H28,n+14⟩)
 ((Za 0 (ptr (n+7) 0)).bind fun v32=>(ld false 1 v32 H28).bind fun v33=>(Zd .plain .eql v33 (.int .i64 5)).bind fun v34=>let t36:Tm:=put (put (put (put (put (put (put (put (put (put (put (put (put (put (put t22 33 v23) 34 v24) 35 (t22 7)) 36 v25) 37 v26) 8 (ptr (n+7) 0)) 38 (t22 5)) 39 (t22 7)) 40 v29) 41 v30) 42 v31) 43 v32) 44 v33) 46 v34) 45 v34
 (csel v34
 ((Za 3 (ptr (n+7) 0)).bind fun v37=>(ld false 1 v37 H28).bind fun v38=>(Zo 1 (t36 5) v38).bind fun v39=>(st false 1 v39 (.bool true) H28).bind fun H40=>(Za 4 (ptr (n+7) 0)).bind fun v41=>(ld false 1 v41 H40).bind fun v42=>(Zo 1 (t36 5) v42).bind fun v43=>(st false 1 v43 (.bool true) H40).bind fun H44=>some ⟨.normal,put (put (put (put (put (put (put (put t36 47 (t36 5)) 48 v37) 49 v38) 50 v39) 51 (t36 5)) 52 v41) 53 v42) 54 v43,H44,n+28⟩)
 ((Zd .plain .eql v33 (.int .i64 6)).bind fun v45=>let t47:Tm:=put (put t36 56 v45) 55 v45
 (csel v45
 (some ⟨.normal,t47,H28,n+20⟩)
 ((Zd .plain .eql v33 (.int .i64 7)).bind fun v48=>some ⟨.normal,put (put t47 57 v48) 55 v48,H28,n+22⟩)
 ).bind fun(o46:Out)=>(csel (o46.t 55)
 ((Za 3 (o46.t 8)).bind fun v51=>(ld false 1 v51 o46.H).bind fun v52=>(Zo 1 (o46.t 5) v52).bind fun v53=>(st false 1 v53 (.bool true) o46.H).bind fun H54=>some ⟨.normal,put (put (put (put o46.t 58 (o46.t 5)) 59 v51) 60 v52) 61 v53,H54,o46.n+5⟩)
 (some ⟨.normal,o46.t,o46.H,o46.n⟩)
 ).bind fun(o49:Out)=>some ⟨.normal,o49.t,o49.H,o49.n⟩)
 ).bind fun(o35:Out)=>some ⟨.normal,o35.t,o35.H,o35.n⟩))
 fun(o21:Out)=>(Zd .plain .sub (o21.t 7) (.int .i64 1)).bind fun v55=>some ⟨.normal,put (put (put o21.t 31 (o21.t 7)) 32 v55) 7 v55,o21.H,o21.n+3⟩)
 (some ⟨(.exit 2),put (put t 29 (t 7)) 30 v20,H,n+2⟩)
noncomputable def S118L0 (C:Zb)(L:Zc->Zc):Zc:=fun t H n=>(Zx false (t 1)).bind fun v8=>(Zd .plain .lss (t 6) v8).bind fun v9=>csel v9
 ((Zo 1 (t 1) (t 6)).bind fun v10=>(ld false 1 v10 H).bind fun v11=>(Zo 1 (t 5) v11).bind fun v12=>(st false 1 v12 (.bool true) H).bind fun H13=>(Zd .plain .add (t 6) (.int .i64 1)).bind fun v14=>some ⟨.normal,put (put (put (put (put (put (put (put (put (put (put (put (put t 13 (t 6)) 14 (t 1)) 15 v8) 16 v9) 19 (t 5)) 20 (t 1)) 21 (t 6)) 22 v10) 23 v11) 24 v12) 17 (t 6)) 18 v14) 6 v14,H13,n+14⟩)
 (some ⟨(.exit 0),put (put (put (put t 13 (t 6)) 14 (t 1)) 15 v8) 16 v9,H,n+4⟩)
noncomputable def S118 (C:Zb)(L:Zc->Zc)(t:Tm)(H:Hp)(n:Nat):Option (Value × Hp × Nat) :=
 (Zs (t 0)).bind fun c2=>let H1:=H.set (n) (some (.row c2 0 true))
 (Za 0 (ptr (n) 0)).bind fun v3=>(ld false 1 v3 H1).bind fun v4=>(Zx false v4).bind fun v5=>(mks (n+5) 1 1 [.bool false] v5 v5 H1).bind fun p6=>(L (S118L0 C L) (put (put (put (put (put (put (put (put t 2 (ptr (n) 0)) 4 nilS) 9 v3) 10 v4) 11 v5) 12 p6.1) 5 p6.1) 6 (.int .i64 0)) p6.2 (n+8)).bind fun(o7:Out)=>(Za 0 (o7.t 2)).bind fun v15=>(ld false 1 v15 o7.H).bind fun v16=>(Zx false v16).bind fun v17=>(Zd .plain .sub v17 (.int .i64 1)).bind fun v18=>(L (S118L1 C L) (put (put (put (put (put o7.t 25 v15) 26 v16) 27 v17) 28 v18) 7 v18) o7.H (o7.n+5)).bind fun(o19:Out)=>some (o19.t 5,o19.H,o19.n+2)
theorem s118 (C:Zb)(L:Zc->Zc)(t:Tm)(H:Hp)(n:Nat):Zq Tryz.prog C L Tryz.f118 t H n=S118 C L t H n:=by kernel_rfl
theorem c118 (args:List Value)(H:Hp)(n:Nat):Call Tryz.prog 118 args H n=S118 (Call Tryz.prog) Zm (Zp args) H n:=(Zg Tryz.func118 args H n).trans (s118 ..)
noncomputable def S119L0 (C:Zb)(L:Zc->Zc):Zc:=fun t H n=>(Zd .plain .leq (t 4) (.int .i64 19)).bind fun v3=>csel v3
 ((Zo 1 (t 3) (t 4)).bind fun v4=>(ld false 1 v4 H).bind fun v5=>(Zd .plain .eql v5 (t 0)).bind fun v6=>csel v6
 (some ⟨.ret,put (put (put (put (put (put (put (put (put (put t 6 (t 4)) 7 v3) 10 (t 3)) 11 (t 4)) 12 v4) 13 v5) 14 (t 0)) 15 v6) 16 (t 4)) 2 (t 4),H,n+10⟩)
 ((Zd .plain .add (t 4) (.int .i64 1)).bind fun v7=>some ⟨.normal,put (put (put (put (put (put (put (put (put (put (put t 6 (t 4)) 7 v3) 10 (t 3)) 11 (t 4)) 12 v4) 13 v5) 14 (t 0)) 15 v6) 8 (t 4)) 9 v7) 4 v7,H,n+11⟩))
 (some ⟨(.exit 0),put (put t 6 (t 4)) 7 v3,H,n+2⟩)
noncomputable def S119 (C:Zb)(L:Zc->Zc)(t:Tm)(H:Hp)(n:Nat):Option (Value × Hp × Nat) :=
 (C 136 [] H (n+3)).bind fun q1=>(L (S119L0 C L) (put (put (put (put t 2 (.int .i64 0)) 5 q1.1) 3 q1.1) 4 (.int .i64 1)) q1.2.1 (q1.2.2+1)).bind fun(o2:Out)=>let o8:=outOf 0 o2
 Xe o8
 (some (.int .i64 0,o8.H,o8.n+1))
 (Vs o8.e
 (some (o8.t 2,o8.H,o8.n)))
theorem s119 (C:Zb)(L:Zc->Zc)(t:Tm)(H:Hp)(n:Nat):Zq Tryz.prog C L Tryz.f119 t H n=S119 C L t H n:=by kernel_rfl
theorem c119 (args:List Value)(H:Hp)(n:Nat):Call Tryz.prog 119 args H n=S119 (Call Tryz.prog) Zm (Zp args) H n:=(Zg Tryz.func119 args H n).trans (s119 ..)
noncomputable def S120 (C:Zb)(L:Zc->Zc)(t:Tm)(H:Hp)(n:Nat):Option (Value × Hp × Nat) :=
 (Zs (t 0)).bind fun c2=>let H1:=H.set (n) (some (.row c2 0 true))
 (Zh (t 1)).bind fun v3=>(Za 0 v3).bind fun v4=>(Za 0 v4).bind fun v5=>(ld false 1 v5 H1).bind fun v6=>(Zo 5 v6 (t 2)).bind fun v7=>(ld true 5 v7 H1).bind fun v8=>let H9:=H1.set (n+10) (some (.row [.int .i64 0,.int .i64 0,.string ⟨#[]⟩,.int .i64 0,.int .i64 0] 0 true))
 (st true 5 (ptr (n+10) 0) v8 H9).bind fun H10=>(Za 0 (ptr (n+10) 0)).bind fun v11=>(ld false 1 v11 H10).bind fun v12=>(Zd .plain .eql v12 (.int .i64 6)).bind fun v13=>csel v13
 ((Za 1 (ptr (n+10) 0)).bind fun v14=>(ld false 1 v14 H10).bind fun v15=>(Zd .plain .rem v15 (.int .i64 8)).bind fun v16=>(Zx false (t 3)).bind fun v17=>(Zd .plain .neq v16 v17).bind fun v18=>csel v18
 (some (.int .i64 2,H10,n+23))
 ((Za 1 (ptr (n+10) 0)).bind fun v19=>(ld false 1 v19 H10).bind fun v20=>(Zd .plain .quo v20 (.int .i64 8)).bind fun v21=>(Za 1 (ptr (n) 0)).bind fun v22=>(ld false 1 v22 H10).bind fun v23=>(Zx false v23).bind fun v24=>(Zd .plain .geq v21 v24).bind fun v25=>csel v25
 (some (.int .i64 7,H10,n+30))
 ((Zh (t 1)).bind fun v26=>(Za 0 v26).bind fun v27=>(Xf [.int .i64 0,.int .i64 0,.string ⟨#[]⟩,.int .i64 0,.int .i64 0] [(0,1,.int .i64 3),(1,1,t 4)]).bind fun v28=>(C 88 [v27,v28] H10 (n+36)).bind fun q29=>(Zh (t 1)).bind fun v30=>(Za 0 v30).bind fun v31=>(Zh (t 1)).bind fun v32=>(Za 2 v32).bind fun v33=>(ld false 1 v33 q29.2.1).bind fun v34=>(Zh (t 1)).bind fun v35=>(Za 3 v35).bind fun v36=>(ld false 1 v36 q29.2.1).bind fun v37=>(Xx (q29.2.2+12) 1 3 [.int .i64 0] [(0,1,q29.1),(1,1,v34),(2,1,v37)] q29.2.1).bind fun p38=>(C 137 [v31,p38.1] p38.2 (q29.2.2+15)).bind fun q39=>(Zh (t 1)).bind fun v40=>(Za 0 v40).bind fun v41=>(Zh (t 1)).bind fun v42=>(Za 4 v42).bind fun v43=>(ld false 1 v43 q39.2.1).bind fun v44=>(Xf [.int .i64 0,.int .i64 0,.string ⟨#[]⟩,.int .i64 0,.int .i64 0] [(0,1,.int .i64 5),(3,1,q39.1),(4,1,v44)]).bind fun v45=>(C 88 [v41,v45] q39.2.1 (q39.2.2+14)).bind fun q46=>(Zh (t 1)).bind fun v47=>(Za 4 v47).bind fun v48=>(st false 1 v48 q46.1 q46.2.1).bind fun H49=>(Zh (t 1)).bind fun v50=>(Za 0 v50).bind fun v51=>(C 137 [v51,t 3] H49 (q46.2.2+6)).bind fun q52=>(Zh (t 1)).bind fun v53=>(Za 0 v53).bind fun v54=>(Za 3 (ptr (n+10) 0)).bind fun v55=>(ld false 1 v55 q52.2.1).bind fun v56=>(Xf [.int .i64 0,.int .i64 0,.string ⟨#[]⟩,.int .i64 0,.int .i64 0] [(0,1,.int .i64 5),(3,1,q52.1),(4,1,v56)]).bind fun v57=>(C 88 [v54,v57] q52.2.1 (q52.2.2+12)).bind fun q58=>(Zh (t 1)).bind fun v59=>(Za 3 v59).bind fun v60=>(st false 1 v60 q58.1 q58.2.1).bind fun H61=>(Zh (t 1)).bind fun v62=>(Za 0 v62).bind fun v63=>(Xf [.int .i64 0,.int .i64 0,.string ⟨#[]⟩,.int .i64 0,.int .i64 0] [(0,1,.int .i64 1)]).bind fun v64=>(C 88 [v63,v64] H61 (q58.2.2+9)).bind fun q65=>(Zh (t 1)).bind fun v66=>(Za 2 v66).bind fun v67=>(st false 1 v67 q65.1 q65.2.1).bind fun H68=>(Za 1 (ptr (n+10) 0)).bind fun v69=>(ld false 1 v69 H68).bind fun v70=>(Zd .plain .quo v70 (.int .i64 8)).bind fun v71=>(Zh (t 1)).bind fun v72=>(Za 1 v72).bind fun v73=>(st false 1 v73 v71 H68).bind fun H74=>some (.int .i64 0,H74,q65.2.2+8))))
 ((Zd .plain .eql v12 (.int .i64 8)).bind fun v75=>csel v75
 ((ld true 3 (ptr (n) 0) H10).bind fun v76=>(Za 1 (ptr (n+10) 0)).bind fun v77=>(ld false 1 v77 H10).bind fun v78=>(C 138 [v76,t 1,v78,t 3,t 4] H10 (n+26)).bind fun q79=>some (q79.1,q79.2.1,q79.2.2))
 ((Zd .plain .eql v12 (.int .i64 7)).bind fun v80=>csel v80
 ((Zx false (t 3)).bind fun v81=>(Zd .plain .neq v81 (.int .i64 1)).bind fun v82=>csel v82
 (some (.int .i64 2,H10,n+24))
 ((Zh (t 1)).bind fun v83=>(Za 0 v83).bind fun v84=>(ld true 1 v84 H10).bind fun v85=>(Za 3 (ptr (n+10) 0)).bind fun v86=>(ld false 1 v86 H10).bind fun v87=>(C 121 [v85,v87,.int .i64 4] H10 (n+37)).bind fun q88=>(ext 0 q88.1).bind fun v89=>(ext 1 q88.1).bind fun v90=>(ext 2 q88.1).bind fun v91=>(un .not v91).bind fun v92=>csel v92
 (some (.int .i64 7,q88.2.1,q88.2.2+3))
 ((Zh (t 1)).bind fun v93=>(Za 1 v93).bind fun v94=>(st false 1 v94 v89 q88.2.1).bind fun H95=>(Zo 1 v90 (.int .i64 0)).bind fun v96=>(ld false 1 v96 H95).bind fun v97=>(Zh (t 1)).bind fun v98=>(Za 2 v98).bind fun v99=>(st false 1 v99 v97 H95).bind fun H100=>(Zo 1 v90 (.int .i64 1)).bind fun v101=>(ld false 1 v101 H100).bind fun v102=>(Zh (t 1)).bind fun v103=>(Za 3 v103).bind fun v104=>(st false 1 v104 v102 H100).bind fun H105=>(Zo 1 v90 (.int .i64 2)).bind fun v106=>(ld false 1 v106 H105).bind fun v107=>(Zh (t 1)).bind fun v108=>(Za 4 v108).bind fun v109=>(st false 1 v109 v107 H105).bind fun H110=>(Zo 1 (t 3) (.int .i64 0)).bind fun v111=>(ld false 1 v111 H110).bind fun v112=>(C 83 [t 1,v112] H110 (q88.2.2+33)).bind fun q113=>some (.int .i64 0,q113.2.1,q113.2.2+1))))
 (some (.int .i64 3,H10,n+21))))
theorem s120 (C:Zb)(L:Zc->Zc)(t:Tm)(H:Hp)(n:Nat):Zq Tryz.prog C L Tryz.f120 t H n=S120 C L t H n:=by kernel_rfl
theorem c120 (args:List Value)(H:Hp)(n:Nat):Call Tryz.prog 120 args H n=S120 (Call Tryz.prog) Zm (Zp args) H n:=(Zg Tryz.func120 args H n).trans (s120 ..)
noncomputable def S121 (C:Zb)(L:Zc->Zc)(t:Tm)(H:Hp)(n:Nat):Option (Value × Hp × Nat) :=
 (Zs (t 0)).bind fun c2=>let H1:=H.set (n) (some (.row c2 0 true))
 (ld true 1 (ptr (n) 0) H1).bind fun v3=>(C 139 [v3,t 1] H1 (n+12)).bind fun q4=>(ext 0 q4.1).bind fun v5=>(ext 1 q4.1).bind fun v6=>(un .not v6).bind fun v7=>let t9:Tm:=put (put (put (put (put (put (put (put (put (put (put (put (put (put (put t 3 (ptr (n) 0)) 6 (.int .i64 0)) 7 nilS) 8 (.bool false)) 12 v3) 13 (t 1)) 14 q4.1) 11 q4.1) 15 v5) 16 v6) 9 v5) 10 v6) 17 v6) 18 v7) 19 v7
 (gsel v7 false
 ((Zx false v5).bind fun v10=>(Zd .plain .neq v10 (t9 2)).bind fun v11=>some ⟨put (put (put (put t9 20 v5) 21 v10) 22 (t9 2)) 23 v11,q4.2.1,q4.2.2+19,[],[]⟩)
 (some ⟨put (put (put (put t9 20 (.tuple #[])) 21 (.tuple #[])) 22 (.tuple #[])) 23 (.tuple #[]),q4.2.1,q4.2.2+19,[],[]⟩)
 ).bind fun(q8:R5)=>(Zl (q8.t 19) (.bool true) (q8.t 23)).bind fun v12=>let t14:Tm:=put (put q8.t 24 v12) 25 v12
 (gsel v12 false
 ((Za 0 (t14 3)).bind fun v15=>(ld false 1 v15 q8.H).bind fun v16=>askB 1023 false 1 v15 v16 q8.hs <|(Zo 1 (t14 9) (.int .i64 0)).bind fun v17=>(ld false 1 v17 q8.H).bind fun v18=>askB 6655 false 1 v17 v18 q8.hs <|(Zo 5 v16 v18).bind fun v19=>(Za 0 v19).bind fun v20=>(ld false 1 v20 q8.H).bind fun v21=>askB 65535 false 1 v20 v21 q8.hs <|(Zd .plain .neq v21 (.int .i64 3)).bind fun v22=>some ⟨put (put (put (put (put (put (put (put (put t14 26 v15) 27 v16) 28 (t14 9)) 29 v17) 30 v18) 31 v19) 32 v20) 33 v21) 34 v22,q8.H,q8.n,(⟨16,false,1,v20,v21⟩ :: ⟨13,false,1,v17,v18⟩ :: ⟨10,false,1,v15,v16⟩ :: q8.rs),q8.hs⟩)
 (some ⟨put (put (put (put (put (put (put (put (put t14 26 (.tuple #[])) 27 (.tuple #[])) 28 (.tuple #[])) 29 (.tuple #[])) 30 (.tuple #[])) 31 (.tuple #[])) 32 (.tuple #[])) 33 (.tuple #[])) 34 (.tuple #[]),q8.H,q8.n,q8.rs,q8.hs⟩)
 ).bind fun(q13:R5)=>(Zl (q13.t 25) (.bool true) (q13.t 34)).bind fun v23=>csel v23
 ((Xx (q13.n) 1 0 [.int .i64 0] [] q13.H).bind fun p24=>Yr ([.int .i64 0,p24.1,.bool false].all notTup) <|some (.tuple ⟨[.int .i64 0,p24.1,.bool false]⟩,p24.2,q13.n+4))
 ((Za 0 (q13.t 3)).bind fun v25=>(ld false 1 v25 q13.H).bind fun v26=>(Zo 1 (q13.t 9) (.int .i64 0)).bind fun v27=>(ld false 1 v27 q13.H).bind fun v28=>(Zo 5 v26 v28).bind fun v29=>(Za 1 v29).bind fun v30=>(ld false 1 v30 q13.H).bind fun v31=>(Yt 1 (q13.t 9) (some (.int .i64 1)) none).bind fun v32=>Yr ([v31,v32,.bool true].all notTup) <|some (.tuple ⟨[v31,v32,.bool true]⟩,q13.H,q13.n+13))
theorem s121 (C:Zb)(L:Zc->Zc)(t:Tm)(H:Hp)(n:Nat):Zq Tryz.prog C L Tryz.f121 t H n=S121 C L t H n:=by kernel_rfl
theorem c121 (args:List Value)(H:Hp)(n:Nat):Call Tryz.prog 121 args H n=S121 (Call Tryz.prog) Zm (Zp args) H n:=(Zg Tryz.func121 args H n).trans (s121 ..)
noncomputable def S122 (C:Zb)(L:Zc->Zc)(t:Tm)(H:Hp)(n:Nat):Option (Value × Hp × Nat) :=
 (Zs (t 1)).bind fun c2=>let H1:=H.set (n) (some (.row c2 0 true))
 (Za 1 (ptr (n) 0)).bind fun v3=>(ld false 1 v3 H1).bind fun v4=>(Zd .plain .rem v4 (.int .i64 8)).bind fun v5=>(Zx false (t 2)).bind fun v6=>(Zd .plain .neq v5 v6).bind fun v7=>csel v7
 (some (.int .i64 2,H1,n+10))
 ((Zh (t 0)).bind fun v8=>(Za 8 v8).bind fun v9=>(ld true 3 v9 H1).bind fun v10=>(Za 1 (ptr (n) 0)).bind fun v11=>(ld false 1 v11 H1).bind fun v12=>(Zd .plain .quo v12 (.int .i64 8)).bind fun v13=>(C 42 [v10,v13] H1 (n+19)).bind fun q14=>(un .not q14.1).bind fun v15=>csel v15
 (some (.int .i64 7,q14.2.1,q14.2.2+1))
 ((Zh (t 0)).bind fun v16=>(Za 0 v16).bind fun v17=>(Za 0 v17).bind fun v18=>(Zh (t 0)).bind fun v19=>(Za 0 v19).bind fun v20=>(Za 1 v20).bind fun v21=>(ld false 1 v21 q14.2.1).bind fun v22=>(Zd .plain .add v22 (.int .i64 1)).bind fun v23=>(Xf [.int .i64 0,.int .i64 0,.string ⟨#[]⟩,.int .i64 0,.int .i64 0] [(0,1,.int .i64 3),(1,1,v23)]).bind fun v24=>(C 101 [v18,v24] q14.2.1 (q14.2.2+13)).bind fun q25=>(Zh (t 0)).bind fun v26=>(Za 0 v26).bind fun v27=>(Za 0 v27).bind fun v28=>(Zh (t 0)).bind fun v29=>(Za 0 v29).bind fun v30=>(Za 2 v30).bind fun v31=>(ld false 1 v31 q25.2.1).bind fun v32=>(Zh (t 0)).bind fun v33=>(Za 0 v33).bind fun v34=>(Za 3 v34).bind fun v35=>(ld false 1 v35 q25.2.1).bind fun v36=>(Xx (q25.2.2+15) 1 3 [.int .i64 0] [(0,1,q25.1),(1,1,v32),(2,1,v36)] q25.2.1).bind fun p37=>(C 140 [v28,p37.1] p37.2 (q25.2.2+18)).bind fun q38=>(Zh (t 0)).bind fun v39=>(Za 0 v39).bind fun v40=>(Za 0 v40).bind fun v41=>(Zh (t 0)).bind fun v42=>(Za 0 v42).bind fun v43=>(Za 4 v43).bind fun v44=>(ld false 1 v44 q38.2.1).bind fun v45=>(C 125 [v41,q38.1,v45] q38.2.1 (q38.2.2+16)).bind fun q46=>(Zh (t 0)).bind fun v47=>(Za 0 v47).bind fun v48=>(Za 4 v48).bind fun v49=>(st false 1 v49 q46.1 q46.2.1).bind fun H50=>(Zh (t 0)).bind fun v51=>(Za 0 v51).bind fun v52=>(Za 0 v52).bind fun v53=>(C 140 [v53,t 2] H50 (q46.2.2+7)).bind fun q54=>(Zh (t 0)).bind fun v55=>(Za 0 v55).bind fun v56=>(Za 0 v56).bind fun v57=>(Za 3 (ptr (n) 0)).bind fun v58=>(ld false 1 v58 q54.2.1).bind fun v59=>(C 125 [v57,q54.1,v59] q54.2.1 (q54.2.2+13)).bind fun q60=>(Zh (t 0)).bind fun v61=>(Za 0 v61).bind fun v62=>(Za 3 v62).bind fun v63=>(st false 1 v63 q60.1 q60.2.1).bind fun H64=>(Zh (t 0)).bind fun v65=>(Za 0 v65).bind fun v66=>(Za 0 v66).bind fun v67=>(Xf [.int .i64 0,.int .i64 0,.string ⟨#[]⟩,.int .i64 0,.int .i64 0] [(0,1,.int .i64 1)]).bind fun v68=>(C 101 [v67,v68] H64 (q60.2.2+11)).bind fun q69=>(Zh (t 0)).bind fun v70=>(Za 0 v70).bind fun v71=>(Za 2 v71).bind fun v72=>(st false 1 v72 q69.1 q69.2.1).bind fun H73=>(Za 1 (ptr (n) 0)).bind fun v74=>(ld false 1 v74 H73).bind fun v75=>(Zd .plain .quo v75 (.int .i64 8)).bind fun v76=>(Zh (t 0)).bind fun v77=>(Za 0 v77).bind fun v78=>(Za 1 v78).bind fun v79=>(st false 1 v79 v76 H73).bind fun H80=>some (.int .i64 0,H80,q69.2.2+9)))
theorem s122 (C:Zb)(L:Zc->Zc)(t:Tm)(H:Hp)(n:Nat):Zq Tryz.prog C L Tryz.f122 t H n=S122 C L t H n:=by kernel_rfl
theorem c122 (args:List Value)(H:Hp)(n:Nat):Call Tryz.prog 122 args H n=S122 (Call Tryz.prog) Zm (Zp args) H n:=(Zg Tryz.func122 args H n).trans (s122 ..)
noncomputable def S123 (C:Zb)(L:Zc->Zc)(t:Tm)(H:Hp)(n:Nat):Option (Value × Hp × Nat) :=
 (C 141 [t 1] H (n+7)).bind fun q1=>(Zx false (t 2)).bind fun v2=>(Zd .plain .neq q1.1 v2).bind fun v3=>csel v3
 (some (.int .i64 2,q1.2.1,q1.2.2+1))
 ((Zd .plain .eql (t 1) (.int .i64 18)).bind fun v4=>csel v4
 ((Zh (t 0)).bind fun v5=>(Za 0 v5).bind fun v6=>(Za 0 v6).bind fun v7=>(Zh (t 0)).bind fun v8=>(Za 0 v8).bind fun v9=>(Za 1 v9).bind fun v10=>(ld false 1 v10 q1.2.1).bind fun v11=>(Zd .plain .add v11 (.int .i64 1)).bind fun v12=>(Xf [.int .i64 0,.int .i64 0,.string ⟨#[]⟩,.int .i64 0,.int .i64 0] [(0,1,.int .i64 3),(1,1,v12)]).bind fun v13=>(C 101 [v7,v13] q1.2.1 (q1.2.2+16)).bind fun q14=>(Zh (t 0)).bind fun v15=>(Za 0 v15).bind fun v16=>(Za 0 v16).bind fun v17=>(Zh (t 0)).bind fun v18=>(Za 0 v18).bind fun v19=>(Za 2 v19).bind fun v20=>(ld false 1 v20 q14.2.1).bind fun v21=>(Zh (t 0)).bind fun v22=>(Za 0 v22).bind fun v23=>(Za 3 v23).bind fun v24=>(ld false 1 v24 q14.2.1).bind fun v25=>(Zh (t 0)).bind fun v26=>(Za 0 v26).bind fun v27=>(Za 4 v27).bind fun v28=>(ld false 1 v28 q14.2.1).bind fun v29=>(Xx (q14.2.2+20) 1 4 [.int .i64 0] [(0,1,q14.1),(1,1,v21),(2,1,v25),(3,1,v29)] q14.2.1).bind fun p30=>(C 140 [v17,p30.1] p30.2 (q14.2.2+23)).bind fun q31=>(Zh (t 0)).bind fun v32=>(Za 0 v32).bind fun v33=>(Za 0 v33).bind fun v34=>(Xf [.int .i64 0,.int .i64 0,.string ⟨#[]⟩,.int .i64 0,.int .i64 0] [(0,1,.int .i64 7),(3,1,q31.1)]).bind fun v35=>(C 101 [v34,v35] q31.2.1 (q31.2.2+8)).bind fun q36=>(Zo 1 (t 2) (.int .i64 0)).bind fun v37=>(ld false 1 v37 q36.2.1).bind fun v38=>(Xx (q36.2.2+5) 1 1 [.int .i64 0] [(0,1,q36.1)] q36.2.1).bind fun p39=>(C 95 [t 0,v38,p39.1] p39.2 (q36.2.2+8)).bind fun q40=>some (q40.1,q40.2.1,q40.2.2))
 ((Zd .plain .gtr (t 1) (.int .i64 12)).bind fun v41=>csel v41
 ((Zh (t 0)).bind fun v42=>(Za 0 v42).bind fun v43=>(Za 0 v43).bind fun v44=>(C 140 [v44,t 2] q1.2.1 (q1.2.2+17)).bind fun q45=>(Zh (t 0)).bind fun v46=>(Za 0 v46).bind fun v47=>(Za 7 v47).bind fun v48=>(st false 1 v48 q45.1 q45.2.1).bind fun H49=>(Zh (t 0)).bind fun v50=>(Za 0 v50).bind fun v51=>(Za 6 v51).bind fun v52=>(st false 1 v52 (t 1) H49).bind fun H53=>(Zh (t 0)).bind fun v54=>(Za 0 v54).bind fun v55=>(Za 5 v55).bind fun v56=>(st false 1 v56 (.int .i64 1) H53).bind fun H57=>some (.int .i64 0,H57,q45.2.2+12))
 ((Zh (t 0)).bind fun v58=>(Za 0 v58).bind fun v59=>(Za 0 v59).bind fun v60=>(C 142 [v60,t 1,t 2] q1.2.1 (q1.2.2+18)).bind fun q61=>(ext 0 q61.1).bind fun v62=>(ext 1 q61.1).bind fun v63=>(Zd .plain .eql v63 (.int .i64 3)).bind fun v64=>csel v64
 (some (.int .i64 4,q61.2.1,q61.2.2+4))
 ((Zd .plain .eql v63 (.int .i64 4)).bind fun v65=>csel v65
 (some (.int .i64 5,q61.2.1,q61.2.2+6))
 ((C 97 [t 0,v62] q61.2.1 (q61.2.2+8)).bind fun q66=>(Zh (t 0)).bind fun v67=>(Za 0 v67).bind fun v68=>(Za 1 v68).bind fun v69=>(ld false 1 v69 q66.2.1).bind fun v70=>(Zd .plain .add v70 (.int .i64 1)).bind fun v71=>(Zh (t 0)).bind fun v72=>(Za 0 v72).bind fun v73=>(Za 1 v73).bind fun v74=>(st false 1 v74 v71 q66.2.1).bind fun H75=>some (.int .i64 0,H75,q66.2.2+11))))))
theorem s123 (C:Zb)(L:Zc->Zc)(t:Tm)(H:Hp)(n:Nat):Zq Tryz.prog C L Tryz.f123 t H n=S123 C L t H n:=by kernel_rfl
theorem c123 (args:List Value)(H:Hp)(n:Nat):Call Tryz.prog 123 args H n=S123 (Call Tryz.prog) Zm (Zp args) H n:=(Zg Tryz.func123 args H n).trans (s123 ..)
noncomputable def S124 (C:Zb)(L:Zc->Zc)(t:Tm)(H:Hp)(n:Nat):Option (Value × Hp × Nat) :=
 (Zx false (t 2)).bind fun v1=>(Zd .plain .neq v1 (.int .i64 1)).bind fun v2=>csel v2
 (some (.int .i64 2,H,n+5))
 ((Zh (t 0)).bind fun v3=>(Za 0 v3).bind fun v4=>(Za 0 v4).bind fun v5=>(C 96 [v5,t 1] H (n+15)).bind fun q6=>(ext 0 q6.1).bind fun v7=>(ext 1 q6.1).bind fun v8=>(un .not v8).bind fun v9=>let t11:Tm:=put (put (put (put (put (put (put (put (put (put (put (put (put (put (put (put (put (put t 6 (.int .i64 0)) 9 (t 2)) 10 v1) 11 v2) 13 (t 0)) 14 v3) 15 v4) 16 v5) 17 (t 1)) 18 q6.1) 12 q6.1) 19 v7) 20 v8) 7 v7) 8 v8) 21 v8) 22 v9) 23 v9
 (gsel v9 false
 ((Zx false v7).bind fun v12=>(Zd .plain .neq v12 (.int .i64 4)).bind fun v13=>some ⟨put (put (put t11 24 v7) 25 v12) 26 v13,q6.2.1,q6.2.2+42,[],[]⟩)
 (some ⟨put (put (put t11 24 (.tuple #[])) 25 (.tuple #[])) 26 (.tuple #[]),q6.2.1,q6.2.2+42,[],[]⟩)
 ).bind fun(q10:R5)=>(Zl (q10.t 23) (.bool true) (q10.t 26)).bind fun v14=>let t16:Tm:=put (put q10.t 27 v14) 28 v14
 (gsel v14 false
 ((Zh (t16 0)).bind fun v17=>(Za 0 v17).bind fun v18=>(Za 0 v18).bind fun v19=>(Za 0 v19).bind fun v20=>(ld false 1 v20 q10.H).bind fun v21=>askB 8191 false 1 v20 v21 q10.hs <|(Zo 1 (t16 7) (.int .i64 0)).bind fun v22=>(ld false 1 v22 q10.H).bind fun v23=>askB 49407 false 1 v22 v23 q10.hs <|(Zo 5 v21 v23).bind fun v24=>(Za 0 v24).bind fun v25=>(ld false 1 v25 q10.H).bind fun v26=>askB 524287 false 1 v25 v26 q10.hs <|(Zd .plain .neq v26 (.int .i64 3)).bind fun v27=>some ⟨put (put (put (put (put (put (put (put (put (put (put (put (put t16 29 (t16 0)) 30 v17) 31 v18) 32 v19) 33 v20) 34 v21) 35 (t16 7)) 36 v22) 37 v23) 38 v24) 39 v25) 40 v26) 41 v27,q10.H,q10.n,(⟨19,false,1,v25,v26⟩ :: ⟨16,false,1,v22,v23⟩ :: ⟨13,false,1,v20,v21⟩ :: q10.rs),q10.hs⟩)
 (some ⟨put (put (put (put (put (put (put (put (put (put (put (put (put t16 29 (.tuple #[])) 30 (.tuple #[])) 31 (.tuple #[])) 32 (.tuple #[])) 33 (.tuple #[])) 34 (.tuple #[])) 35 (.tuple #[])) 36 (.tuple #[])) 37 (.tuple #[])) 38 (.tuple #[])) 39 (.tuple #[])) 40 (.tuple #[])) 41 (.tuple #[]),q10.H,q10.n,q10.rs,q10.hs⟩)
 ).bind fun(q15:R5)=>(Zl (q15.t 28) (.bool true) (q15.t 41)).bind fun v28=>let t30:Tm:=put (put q15.t 42 v28) 43 v28
 (gsel v28 false
 ((Zh (t30 0)).bind fun v31=>(Za 8 v31).bind fun v32=>(ld true 3 v32 q15.H).bind fun v33=>askB 67108863 true 3 v32 v33 q15.hs <|(Zh (t30 0)).bind fun v34=>(Za 0 v34).bind fun v35=>(Za 0 v35).bind fun v36=>(Za 0 v36).bind fun v37=>(ld false 1 v37 q15.H).bind fun v38=>askB 4169138175 false 1 v37 v38 q15.hs <|(Zo 1 (t30 7) (.int .i64 0)).bind fun v39=>(ld false 1 v39 q15.H).bind fun v40=>askB 25778192383 false 1 v39 v40 q15.hs <|(Zo 5 v38 v40).bind fun v41=>(Za 1 v41).bind fun v42=>(ld false 1 v42 q15.H).bind fun v43=>askB 274752077823 false 1 v42 v43 q15.hs <|(C 42 [v33,v43] q15.H (q15.n)).bind fun q44=>asks 549755813887 q44.2.1 q15.rs <|(un .not q44.1).bind fun v45=>some ⟨put (put (put (put (put (put (put (put (put (put (put (put (put (put (put (put (put (put t30 44 (t30 0)) 45 v31) 46 v32) 47 v33) 48 (t30 0)) 49 v34) 50 v35) 51 v36) 52 v37) 53 v38) 54 (t30 7)) 55 v39) 56 v40) 57 v41) 58 v42) 59 v43) 60 q44.1) 61 v45,q44.2.1,q44.2.2,(⟨38,false,1,v42,v43⟩ :: ⟨35,false,1,v39,v40⟩ :: ⟨32,false,1,v37,v38⟩ :: ⟨26,true,3,v32,v33⟩ :: q15.rs),((39,q15.H) :: q15.hs)⟩)
 (some ⟨put (put (put (put (put (put (put (put (put (put (put (put (put (put (put (put (put (put t30 44 (.tuple #[])) 45 (.tuple #[])) 46 (.tuple #[])) 47 (.tuple #[])) 48 (.tuple #[])) 49 (.tuple #[])) 50 (.tuple #[])) 51 (.tuple #[])) 52 (.tuple #[])) 53 (.tuple #[])) 54 (.tuple #[])) 55 (.tuple #[])) 56 (.tuple #[])) 57 (.tuple #[])) 58 (.tuple #[])) 59 (.tuple #[])) 60 (.tuple #[])) 61 (.tuple #[]),q15.H,q15.n,q15.rs,q15.hs⟩)
 ).bind fun(q29:R5)=>(Zl (q29.t 43) (.bool true) (q29.t 61)).bind fun v46=>csel v46
 (some (.int .i64 7,q29.H,q29.n+1))
 ((Zh (q29.t 0)).bind fun v47=>(Za 0 v47).bind fun v48=>(Za 0 v48).bind fun v49=>(Za 0 v49).bind fun v50=>(ld false 1 v50 q29.H).bind fun v51=>(Zo 1 (q29.t 7) (.int .i64 0)).bind fun v52=>(ld false 1 v52 q29.H).bind fun v53=>(Zo 5 v51 v53).bind fun v54=>(Za 1 v54).bind fun v55=>(ld false 1 v55 q29.H).bind fun v56=>(Zo 1 (q29.t 7) (.int .i64 1)).bind fun v57=>(ld false 1 v57 q29.H).bind fun v58=>(Zo 1 (q29.t 7) (.int .i64 2)).bind fun v59=>(ld false 1 v59 q29.H).bind fun v60=>(Zo 1 (q29.t 7) (.int .i64 3)).bind fun v61=>(ld false 1 v61 q29.H).bind fun v62=>(Zh (q29.t 0)).bind fun v63=>(Za 0 v63).bind fun v64=>(Za 1 v64).bind fun v65=>(st false 1 v65 v56 q29.H).bind fun H66=>(Zh (q29.t 0)).bind fun v67=>(Za 0 v67).bind fun v68=>(Za 2 v68).bind fun v69=>(st false 1 v69 v58 H66).bind fun H70=>(Zh (q29.t 0)).bind fun v71=>(Za 0 v71).bind fun v72=>(Za 3 v72).bind fun v73=>(st false 1 v73 v60 H70).bind fun H74=>(Zh (q29.t 0)).bind fun v75=>(Za 0 v75).bind fun v76=>(Za 4 v76).bind fun v77=>(st false 1 v77 v62 H74).bind fun H78=>(Zo 1 (q29.t 2) (.int .i64 0)).bind fun v79=>(ld false 1 v79 H78).bind fun v80=>(C 97 [q29.t 0,v80] H78 (q29.n+46)).bind fun q81=>some (.int .i64 0,q81.2.1,q81.2.2+1)))
theorem s124 (C:Zb)(L:Zc->Zc)(t:Tm)(H:Hp)(n:Nat):Zq Tryz.prog C L Tryz.f124 t H n=S124 C L t H n:=by kernel_rfl
theorem c124 (args:List Value)(H:Hp)(n:Nat):Call Tryz.prog 124 args H n=S124 (Call Tryz.prog) Zm (Zp args) H n:=(Zg Tryz.func124 args H n).trans (s124 ..)
noncomputable def S125 (C:Zb)(L:Zc->Zc)(t:Tm)(H:Hp)(n:Nat):Option (Value × Hp × Nat) :=
 (Xf [.int .i64 0,.int .i64 0,.string ⟨#[]⟩,.int .i64 0,.int .i64 0] [(0,1,.int .i64 5),(3,1,t 1),(4,1,t 2)]).bind fun v1=>(C 101 [t 0,v1] H (n+7)).bind fun q2=>some (q2.1,q2.2.1,q2.2.2)
theorem s125 (C:Zb)(L:Zc->Zc)(t:Tm)(H:Hp)(n:Nat):Zq Tryz.prog C L Tryz.f125 t H n=S125 C L t H n:=by kernel_rfl
theorem c125 (args:List Value)(H:Hp)(n:Nat):Call Tryz.prog 125 args H n=S125 (Call Tryz.prog) Zm (Zp args) H n:=(Zg Tryz.func125 args H n).trans (s125 ..)
noncomputable def S126L0 (C:Zb)(L:Zc->Zc):Zc:=fun t H n=>(Zd .plain .lss (t 21) (t 20)).bind fun v13=>csel v13
 (let t15:Tm:=put t 22 v13
 Option.bind
 ((Zo 5 (t15 19) (t15 21)).bind fun v16=>(ld true 5 v16 H).bind fun v17=>let H18:=H.set (n+4) (some (.row [.int .i64 0,.int .i64 0,.string ⟨#[]⟩,.int .i64 0,.int .i64 0] 0 true))
 (st true 5 (ptr (n+4) 0) v17 H18).bind fun H19=>(Zo 1 (t15 7) (t15 21)).bind fun v20=>(st false 1 v20 (.int .i64 (-1)) H19).bind fun H21=>(Zo 1 (t15 8) (t15 21)).bind fun v22=>(ld false 1 v22 H21).bind fun v23=>(un .not v23).bind fun v24=>csel v24
 (some ⟨(.exit 1),put (put (put (put (put (put (put (put (put (put (put (put (put t15 23 (t15 21)) 24 v16) 25 v17) 10 (ptr (n+4) 0)) 9 (t15 21)) 26 (t15 7)) 27 (t15 21)) 28 v20) 29 (t15 8)) 30 (t15 21)) 31 v22) 32 v23) 33 v24,H21,n+16⟩)
 ((Za 0 (ptr (n+4) 0)).bind fun v25=>(ld false 1 v25 H21).bind fun v26=>(Zd .plain .eql v26 (.int .i64 5)).bind fun v27=>let t29:Tm:=put (put (put (put (put (put (put (put (put (put (put (put (put (put (put (put (put t15 23 (t15 21)) 24 v16) 25 v17) 10 (ptr (n+4) 0)) 9 (t15 21)) 26 (t15 7)) 27 (t15 21)) 28 v20) 29 (t15 8)) 30 (t15 21)) 31 v22) 32 v23) 33 v24) 34 v25) 35 v26) 37 v27) 36 v27
 (csel v27
 ((Za 3 (ptr (n+4) 0)).bind fun v30=>(ld false 1 v30 H21).bind fun v31=>(Zo 1 (t29 7) v31).bind fun v32=>(ld false 1 v32 H21).bind fun v33=>(Za 4 (ptr (n+4) 0)).bind fun v34=>(ld false 1 v34 H21).bind fun v35=>(Zo 1 (t29 7) v35).bind fun v36=>(ld false 1 v36 H21).bind fun v37=>(Za 3 (ptr (n+4) 0)).bind fun v38=>(st false 1 v38 v33 H21).bind fun H39=>ask (ld false 1 v36 H39=some v37) <|(Za 4 (ptr (n+4) 0)).bind fun v40=>(st false 1 v40 v37 H39).bind fun H41=>some ⟨.normal,put (put (put (put (put (put (put (put (put (put (put (put t29 38 (t29 7)) 39 v30) 40 v31) 41 v32) 42 v33) 43 (t29 7)) 44 v34) 45 v35) 46 v36) 47 v37) 48 v38) 49 v40,H41,n+34⟩)
 ((Zd .plain .eql v26 (.int .i64 6)).bind fun v42=>let t44:Tm:=put (put t29 51 v42) 50 v42
 (csel v42
 (some ⟨.normal,t44,H21,n+22⟩)
 ((Zd .plain .eql v26 (.int .i64 7)).bind fun v45=>some ⟨.normal,put (put t44 52 v45) 50 v45,H21,n+24⟩)
 ).bind fun(o43:Out)=>(csel (o43.t 50)
 ((Za 3 (o43.t 10)).bind fun v48=>(ld false 1 v48 o43.H).bind fun v49=>(Zo 1 (o43.t 7) v49).bind fun v50=>(ld false 1 v50 o43.H).bind fun v51=>(Za 3 (o43.t 10)).bind fun v52=>(st false 1 v52 v51 o43.H).bind fun H53=>some ⟨.normal,put (put (put (put (put (put o43.t 53 (o43.t 7)) 54 v48) 55 v49) 56 v50) 57 v51) 58 v52,H53,o43.n+7⟩)
 (some ⟨.normal,o43.t,o43.H,o43.n⟩)
 ).bind fun(o46:Out)=>some ⟨.normal,o46.t,o46.H,o46.n⟩)
 ).bind fun(o28:Out)=>(ld true 5 (o28.t 10) o28.H).bind fun v54=>(C 101 [o28.t 0,v54] o28.H (o28.n+7)).bind fun q55=>(Zo 1 (o28.t 7) (o28.t 9)).bind fun v56=>(st false 1 v56 q55.1 q55.2.1).bind fun H57=>some ⟨.normal,put (put (put (put (put (put o28.t 59 (o28.t 7)) 60 (o28.t 9)) 61 (o28.t 0)) 62 v54) 63 q55.1) 64 v56,H57,q55.2.2⟩))
 fun(o14:Out)=>(Zd .plain .add (o14.t 21) (.int .i64 1)).bind fun v58=>some ⟨.normal,put (put o14.t 65 v58) 21 v58,o14.H,o14.n+2⟩)
 (some ⟨(.exit 0),put t 22 v13,H,n+1⟩)
noncomputable def S126 (C:Zb)(L:Zc->Zc)(t:Tm)(H:Hp)(n:Nat):Option (Value × Hp × Nat) :=
 (Zs (t 1)).bind fun c2=>let H1:=H.set (n) (some (.row c2 0 true))
 (Za 0 (ptr (n) 0)).bind fun v3=>(ld false 1 v3 H1).bind fun v4=>(Zx false v4).bind fun v5=>(mks (n+5) 1 8 [.int .i64 0] v5 v5 H1).bind fun p6=>(ld true 1 (ptr (n) 0) p6.2).bind fun v7=>(C 143 [v7,t 2] p6.2 (n+11)).bind fun q8=>(Za 0 (ptr (n) 0)).bind fun v9=>(ld false 1 v9 q8.2.1).bind fun v10=>(Zx false v10).bind fun v11=>(L (S126L0 C L) (put (put (put (put (put (put (put (put (put (put (put (put (put (put (put t 4 (ptr (n) 0)) 6 nilS) 11 v3) 12 v4) 13 v5) 14 p6.1) 7 p6.1) 15 v7) 16 (t 2)) 17 q8.1) 8 q8.1) 18 v9) 19 v10) 20 v11) 21 (.int .i64 0)) q8.2.1 (q8.2.2+4)).bind fun(o12:Out)=>some (o12.t 7,o12.H,o12.n+2)
theorem s126 (C:Zb)(L:Zc->Zc)(t:Tm)(H:Hp)(n:Nat):Zq Tryz.prog C L Tryz.f126 t H n=S126 C L t H n:=by kernel_rfl
theorem c126 (args:List Value)(H:Hp)(n:Nat):Call Tryz.prog 126 args H n=S126 (Call Tryz.prog) Zm (Zp args) H n:=(Zg Tryz.func126 args H n).trans (s126 ..)
noncomputable def S127L0 (C:Zb)(L:Zc->Zc):Zc:=fun t H n=>(Zd .plain .gtr (t 2) (.int .i64 0)).bind fun v2=>csel v2
 ((Zh (t 0)).bind fun v3=>(Za 0 v3).bind fun v4=>(Za 0 v4).bind fun v5=>(Za 0 v5).bind fun v6=>(ld false 1 v6 H).bind fun v7=>(Zo 5 v7 (t 1)).bind fun v8=>(Za 0 v8).bind fun v9=>(ld false 1 v9 H).bind fun v10=>(Zd .plain .neq v10 (.int .i64 5)).bind fun v11=>csel v11
 (some ⟨.ret,put (put (put (put (put (put (put (put (put (put (put (put (put (put (put t 8 (t 2)) 9 v2) 12 (t 0)) 13 v3) 14 v4) 15 v5) 16 v6) 17 v7) 18 (t 1)) 19 v8) 20 v9) 21 v10) 22 v11) 6 (.int .i64 0)) 7 (.bool false),H,n+15⟩)
 ((Zh (t 0)).bind fun v12=>(Za 0 v12).bind fun v13=>(Za 0 v13).bind fun v14=>(Za 0 v14).bind fun v15=>(ld false 1 v15 H).bind fun v16=>(Zo 5 v16 (t 1)).bind fun v17=>(Za 4 v17).bind fun v18=>(ld false 1 v18 H).bind fun v19=>(Zd .plain .sub (t 2) (.int .i64 1)).bind fun v20=>some ⟨.normal,put (put (put (put (put (put (put (put (put (put (put (put (put (put (put (put (put (put (put (put (put (put (put (put (put (put (put t 8 (t 2)) 9 v2) 12 (t 0)) 13 v3) 14 v4) 15 v5) 16 v6) 17 v7) 18 (t 1)) 19 v8) 20 v9) 21 v10) 22 v11) 23 (t 0)) 24 v12) 25 v13) 26 v14) 27 v15) 28 v16) 29 (t 1)) 30 v17) 31 v18) 32 v19) 1 v19) 10 (t 2)) 11 v20) 2 v20,H,n+27⟩))
 (some ⟨(.exit 0),put (put t 8 (t 2)) 9 v2,H,n+2⟩)
noncomputable def S127 (C:Zb)(L:Zc->Zc)(t:Tm)(H:Hp)(n:Nat):Option (Value × Hp × Nat) :=
 (L (S127L0 C L) (put (put t 6 (.int .i64 0)) 7 (.bool false)) H (n+2)).bind fun(o1:Out)=>let o21:=outOf 0 o1
 Xe o21
 ((Zh (o21.t 0)).bind fun v22=>(Za 0 v22).bind fun v23=>(Za 0 v23).bind fun v24=>(Za 0 v24).bind fun v25=>(ld false 1 v25 o21.H).bind fun v26=>(Zo 5 v26 (o21.t 1)).bind fun v27=>(Za 0 v27).bind fun v28=>(ld false 1 v28 o21.H).bind fun v29=>(Zd .plain .neq v29 (.int .i64 5)).bind fun v30=>csel v30
 (Yr ([.int .i64 0,.bool false].all notTup) <|some (.tuple ⟨[.int .i64 0,.bool false]⟩,o21.H,o21.n+13))
 ((Zh (o21.t 0)).bind fun v31=>(Za 0 v31).bind fun v32=>(Za 0 v32).bind fun v33=>(Za 0 v33).bind fun v34=>(ld false 1 v34 o21.H).bind fun v35=>(Zo 5 v35 (o21.t 1)).bind fun v36=>(Za 3 v36).bind fun v37=>(ld false 1 v37 o21.H).bind fun v38=>Yr ([v38,.bool true].all notTup) <|some (.tuple ⟨[v38,.bool true]⟩,o21.H,o21.n+23)))
 (Vs o21.e
 (Yr ([o21.t 6,o21.t 7].all notTup) <|some (.tuple ⟨[o21.t 6,o21.t 7]⟩,o21.H,o21.n)))
theorem s127 (C:Zb)(L:Zc->Zc)(t:Tm)(H:Hp)(n:Nat):Zq Tryz.prog C L Tryz.f127 t H n=S127 C L t H n:=by kernel_rfl
theorem c127 (args:List Value)(H:Hp)(n:Nat):Call Tryz.prog 127 args H n=S127 (Call Tryz.prog) Zm (Zp args) H n:=(Zg Tryz.func127 args H n).trans (s127 ..)
noncomputable def S128 (C:Zb)(L:Zc->Zc)(t:Tm)(H:Hp)(n:Nat):Option (Value × Hp × Nat) :=
 (C 145 [] H (n+6)).bind fun q1=>(C 144 [q1.1,t 0] q1.2.1 (q1.2.2)).bind fun q2=>(Zd .plain .add q2.1 (.int .i64 1)).bind fun v3=>some (v3,q2.2.1,q2.2.2)
theorem s128 (C:Zb)(L:Zc->Zc)(t:Tm)(H:Hp)(n:Nat):Zq Tryz.prog C L Tryz.f128 t H n=S128 C L t H n:=by kernel_rfl
theorem c128 (args:List Value)(H:Hp)(n:Nat):Call Tryz.prog 128 args H n=S128 (Call Tryz.prog) Zm (Zp args) H n:=(Zg Tryz.func128 args H n).trans (s128 ..)
noncomputable def S129L1 (C:Zb)(L:Zc->Zc):Zc:=fun t H n=>(Zx true (t 1)).bind fun v65=>(Zd .plain .lss (t 11) v65).bind fun v66=>let t68:Tm:=put (put (put (put (put t 103 (t 11)) 104 (t 1)) 105 v65) 106 v66) 107 v66
 (gsel v66 true
 ((idxS (t68 1) (t68 11)).bind fun v69=>(C 146 [v69] H (n+10)).bind fun q70=>some (put (put (put (put t68 108 (t68 1)) 109 (t68 11)) 110 v69) 111 q70.1,q70.2.1,q70.2.2))
 (some (put (put (put (put t68 108 (.tuple #[])) 109 (.tuple #[])) 110 (.tuple #[])) 111 (.tuple #[]),H,n+10))
 ).bind fun(q67:R3)=>(Zl (q67.1 107) (q67.1 111) (.bool false)).bind fun v71=>csel v71
 ((Zd .plain .add (q67.1 11) (.int .i64 1)).bind fun v72=>some ⟨.normal,put (put (put (put q67.1 112 v71) 113 (q67.1 11)) 114 v72) 11 v72,q67.2.1,q67.2.2+3⟩)
 (some ⟨(.exit 4),put q67.1 112 v71,q67.2.1,q67.2.2⟩)
noncomputable def S129L0 (C:Zb)(L:Zc->Zc):Zc:=fun t H n=>(Zx true (t 1)).bind fun v24=>(Zd .plain .lss (t 11) v24).bind fun v25=>csel v25
 ((Zx false (t 10)).bind fun v26=>(Zd .plain .sub v26 (.int .i64 1)).bind fun v27=>(idxS (t 1) (t 11)).bind fun v28=>(Zd .plain .eql v28 (.int .u8 32)).bind fun v29=>let t31:Tm:=put (put (put (put (put (put (put (put (put (put (put (put (put (put (put t 36 (t 11)) 37 (t 1)) 38 v24) 39 v25) 40 (t 10)) 41 v26) 42 v27) 12 v27) 43 (t 1)) 44 (t 11)) 45 v28) 13 v28) 51 v28) 52 v29) 50 v29
 (csel v29
 ((Zd .plain .add (t31 11) (.int .i64 1)).bind fun v32=>some ⟨.normal,put (put (put t31 53 (t31 11)) 54 v32) 11 v32,H,n+18⟩)
 ((Zd .plain .eql v28 (.int .u8 40)).bind fun v33=>let t35:Tm:=put (put (put t31 56 v28) 57 v33) 55 v33
 (csel v33
 ((Xf [.int .i64 0,nilS] [(0,1,t35 11)]).bind fun v36=>(Xx (n+21) 2 1 [.int .i64 0,nilS] [(0,2,v36)] H).bind fun p37=>(app (n+22) 2 32 (t35 10) p37.1 p37.2).bind fun p38=>(Zd .plain .add (t35 11) (.int .i64 1)).bind fun v39=>some ⟨.normal,put (put (put (put (put (put (put (put (put t35 58 (t35 10)) 59 (t35 11)) 60 v36) 61 p37.1) 62 p38.1) 10 p38.1) 63 (t35 11)) 64 v39) 11 v39,p38.2,n+27⟩)
 ((Zd .plain .eql v28 (.int .u8 41)).bind fun v40=>let t42:Tm:=put (put (put t35 66 v28) 67 v40) 65 v40
 (csel v40
 ((Zd .plain .eql v27 (.int .i64 0)).bind fun v43=>csel v43
 ((ld true 1 (t42 2) H).bind fun v44=>(C 51 [v44] H (n+31)).bind fun q45=>(st true 1 (t42 4) q45.1 q45.2.1).bind fun H46=>some ⟨.ret,put (put (put (put (put (put (put (put (put t42 68 v27) 69 v43) 70 v44) 71 q45.1) 72 (t42 8)) 73 (t42 11)) 5 (t42 8)) 6 (.int .i64 5)) 7 (t42 11),H46,q45.2.2⟩)
 ((Zo 2 (t42 10) v27).bind fun v47=>(Za 1 v47).bind fun v48=>(ld false 1 v48 H).bind fun v49=>(C 137 [t42 9,v49] H (n+30)).bind fun q50=>(Yt 2 (t42 10) none (some v27)).bind fun v51=>(Zd .plain .sub v27 (.int .i64 1)).bind fun v52=>(Zd .plain .sub v27 (.int .i64 1)).bind fun v53=>(Zo 2 v51 v53).bind fun v54=>(Za 1 v54).bind fun v55=>(ld false 1 v55 q50.2.1).bind fun v56=>(Xx (q50.2.2+14) 1 1 [.int .i64 0] [(0,1,q50.1)] q50.2.1).bind fun p57=>(app (q50.2.2+15) 1 8 v56 p57.1 p57.2).bind fun p58=>(Zo 2 v51 v52).bind fun v59=>(Za 1 v59).bind fun v60=>(st false 1 v60 p58.1 p58.2).bind fun H61=>(Zd .plain .add (t42 11) (.int .i64 1)).bind fun v62=>some ⟨.normal,put (put (put (put (put (put (put (put (put (put (put (put (put (put (put (put (put (put (put (put (put (put (put (put (put (put (put (put (put (put t42 68 v27) 69 v43) 74 (t42 10)) 75 v27) 76 v47) 77 v48) 78 v49) 79 q50.1) 14 q50.1) 80 (t42 10)) 81 v27) 82 v51) 10 v51) 83 v51) 84 v27) 85 v52) 86 v51) 87 v27) 88 v53) 89 v54) 90 v55) 91 v56) 92 q50.1) 93 p57.1) 94 p58.1) 95 v59) 96 v60) 97 (t42 11)) 98 v62) 11 v62,H61,q50.2.2+22⟩))
 ((C 146 [v28] H (n+24)).bind fun q63=>csel q63.1
 ((L (S129L1 C L) (put (put (put (put (put t42 100 v28) 101 q63.1) 99 q63.1) 102 (t42 11)) 15 (t42 11)) q63.2.1 (q63.2.2+2)).bind fun(o64:Out)=>(Yt 0 (o64.t 1) (some (o64.t 15)) (some (o64.t 11))).bind fun v73=>(C 147 [v73] o64.H (o64.n+11)).bind fun q74=>(ext 0 q74.1).bind fun v75=>(ext 1 q74.1).bind fun v76=>let H77:=q74.2.1.set (o64.n+8) (some (.row [.int .i64 0,.int .i64 0,.string ⟨#[]⟩,.int .i64 0,.int .i64 0] 0 true))
 (st true 5 (ptr (o64.n+8) 0) v75 H77).bind fun H78=>(un .not v76).bind fun v79=>csel v79
 ((ld true 1 (o64.t 2) H78).bind fun v80=>(C 51 [v80] H78 (q74.2.2+10)).bind fun q81=>(st true 1 (o64.t 4) q81.1 q81.2.1).bind fun H82=>some ⟨.ret,put (put (put (put (put (put (put (put (put (put (put (put (put (put (put (put (put (put (put o64.t 116 (o64.t 1)) 117 (o64.t 15)) 118 (o64.t 11)) 119 v73) 120 q74.1) 115 q74.1) 121 v75) 122 v76) 16 (ptr (o64.n+8) 0)) 17 v76) 123 v76) 124 v79) 125 v80) 126 q81.1) 127 (o64.t 8)) 128 (o64.t 15)) 5 (o64.t 8)) 6 (.int .i64 3)) 7 (o64.t 15),H82,q81.2.2⟩)
 ((Zo 2 (o64.t 10) (o64.t 12)).bind fun v83=>(Za 1 v83).bind fun v84=>(ld false 1 v84 H78).bind fun v85=>(ld true 5 (ptr (o64.n+8) 0) H78).bind fun v86=>(C 88 [o64.t 9,v86] H78 (q74.2.2+16)).bind fun q87=>ask (ld false 1 v84 q87.2.1=some v85) <|(Xx (q74.2.2+11) 1 1 [.int .i64 0] [(0,1,q87.1)] q87.2.1).bind fun p88=>(app (q74.2.2+12) 1 8 v85 p88.1 p88.2).bind fun p89=>(Zo 2 (o64.t 10) (o64.t 12)).bind fun v90=>(Za 1 v90).bind fun v91=>(st false 1 v91 p89.1 p89.2).bind fun H92=>some ⟨.normal,put (put (put (put (put (put (put (put (put (put (put (put (put (put (put (put (put (put (put (put (put (put (put (put (put o64.t 116 (o64.t 1)) 117 (o64.t 15)) 118 (o64.t 11)) 119 v73) 120 q74.1) 115 q74.1) 121 v75) 122 v76) 16 (ptr (o64.n+8) 0)) 17 v76) 123 v76) 124 v79) 129 (o64.t 10)) 130 (o64.t 12)) 131 (o64.t 10)) 132 (o64.t 12)) 133 v83) 134 v84) 135 v85) 136 v86) 137 q87.1) 138 p88.1) 139 p89.1) 140 v90) 141 v91,H92,q87.2.2⟩))
 ((ld true 1 (t42 2) q63.2.1).bind fun v93=>(C 51 [v93] q63.2.1 (q63.2.2+8)).bind fun q94=>(st true 1 (t42 4) q94.1 q94.2.1).bind fun H95=>some ⟨.ret,put (put (put (put (put (put (put (put (put (put t42 100 v28) 101 q63.1) 99 q63.1) 46 v93) 47 q94.1) 48 (t42 8)) 49 (t42 11)) 5 (t42 8)) 6 (.int .i64 2)) 7 (t42 11),H95,q94.2.2⟩))
 ).bind fun(o41:Out)=>some o41)
 ).bind fun(o34:Out)=>some o34)
 ).bind fun(o30:Out)=>let o96:=outOf 3 o30
 let o97:=outOf 2 o96
 some o97)
 (some ⟨(.exit 1),put (put (put (put t 36 (t 11)) 37 (t 1)) 38 v24) 39 v25,H,n+4⟩)
noncomputable def S129 (C:Zb)(L:Zc->Zc)(t:Tm)(H:Hp)(n:Nat):Option (Value × Hp × Nat) :=
 (Zs (t 0)).bind fun c2=>let H1:=H.set (n) (some (.row c2 0 true))
 let H3:=H1.set (n+1) (some (.row [nilS] 0 true))
 (Xx (n+5) 1 0 [.int .i64 0] [] H3).bind fun p4=>(ld true 1 (ptr (n) 0) p4.2).bind fun v5=>(C 45 [v5] p4.2 (n+11)).bind fun q6=>(un .not q6.1).bind fun v7=>csel v7
 ((Xf [nilS] []).bind fun v8=>(st true 1 (ptr (n+1) 0) v8 q6.2.1).bind fun H9=>(ld true 1 (ptr (n+1) 0) H9).bind fun v10=>Yr ([v10,p4.1,.int .i64 6,.int .i64 0].all notTup) <|some (.tuple ⟨[v10,p4.1,.int .i64 6,.int .i64 0]⟩,H9,q6.2.2+6))
 ((Zx true (t 1)).bind fun v11=>(Zd .plain .gtr v11 (.int .i64 400)).bind fun v12=>csel v12
 ((ld true 1 (ptr (n) 0) q6.2.1).bind fun v13=>(C 51 [v13] q6.2.1 (q6.2.2+11)).bind fun q14=>(st true 1 (ptr (n+1) 0) q14.1 q14.2.1).bind fun H15=>(ld true 1 (ptr (n+1) 0) H15).bind fun v16=>Yr ([v16,p4.1,.int .i64 1,.int .i64 0].all notTup) <|some (.tuple ⟨[v16,p4.1,.int .i64 1,.int .i64 0]⟩,H15,q14.2.2))
 ((ld true 1 (ptr (n) 0) q6.2.1).bind fun v17=>(C 51 [v17] q6.2.1 (q6.2.2+8)).bind fun q18=>let H19:=q18.2.1.set (q6.2.2+6) (some (.row [nilS] 0 true))
 (st true 1 (ptr (q6.2.2+6) 0) q18.1 H19).bind fun H20=>(Xf [.int .i64 0,nilS] []).bind fun v21=>(Xx (q18.2.2+1) 2 1 [.int .i64 0,nilS] [(0,2,v21)] H20).bind fun p22=>(L (S129L0 C L) (put (put (put (put (put (put (put (put (put (put (put (put (put (put (put (put (put (put (put (put (put (put t 2 (ptr (n) 0)) 4 (ptr (n+1) 0)) 5 nilS) 6 (.int .i64 0)) 7 (.int .i64 0)) 18 p4.1) 8 p4.1) 20 v5) 21 q6.1) 22 v7) 19 v7) 26 (t 1)) 27 v11) 28 v12) 25 v12) 32 v17) 33 q18.1) 9 (ptr (q6.2.2+6) 0)) 34 v21) 35 p22.1) 10 p22.1) 11 (.int .i64 0)) p22.2 (q18.2.2+4)).bind fun(o23:Out)=>let o98:=outOf 1 o23
 Xe o98
 ((Zx false (o98.t 10)).bind fun v99=>(Zd .plain .gtr v99 (.int .i64 1)).bind fun v100=>csel v100
 ((ld true 1 (o98.t 2) o98.H).bind fun v101=>(C 51 [v101] o98.H (o98.n+17)).bind fun q102=>(Zx false (o98.t 10)).bind fun v103=>(Zd .plain .sub v103 (.int .i64 1)).bind fun v104=>(Zo 2 (o98.t 10) v104).bind fun v105=>(Za 0 v105).bind fun v106=>(ld false 1 v106 q102.2.1).bind fun v107=>ask (ld false 1 v106 o98.H=some v107) <|(st true 1 (o98.t 4) q102.1 q102.2.1).bind fun H108=>ask (ld false 1 v106 H108=some v107) <|(ld true 1 (o98.t 4) H108).bind fun v109=>Yr ([v109,o98.t 8,.int .i64 4,v107].all notTup) <|some (.tuple ⟨[v109,o98.t 8,.int .i64 4,v107]⟩,H108,q102.2.2))
 ((ld true 1 (o98.t 9) o98.H).bind fun v110=>(C 45 [v110] o98.H (o98.n+6)).bind fun q111=>(un .not q111.1).bind fun v112=>csel v112
 ((ld true 1 (o98.t 2) q111.2.1).bind fun v113=>(C 51 [v113] q111.2.1 (q111.2.2+7)).bind fun q114=>(st true 1 (o98.t 4) q114.1 q114.2.1).bind fun H115=>(ld true 1 (o98.t 4) H115).bind fun v116=>Yr ([v116,o98.t 8,.int .i64 6,.int .i64 0].all notTup) <|some (.tuple ⟨[v116,o98.t 8,.int .i64 6,.int .i64 0]⟩,H115,q114.2.2))
 ((ld true 1 (o98.t 9) q111.2.1).bind fun v117=>(Xx (q111.2.2+1) 1 0 [.int .i64 0] [] q111.2.1).bind fun p118=>(Zo 2 (o98.t 10) (.int .i64 0)).bind fun v119=>(Za 1 v119).bind fun v120=>(ld false 1 v120 p118.2).bind fun v121=>(app (q111.2.2+6) 1 8 p118.1 v121 p118.2).bind fun p122=>ask (ld true 1 (o98.t 9) p122.2=some v117) <|(Zx true (o98.t 1)).bind fun v123=>(st true 1 (o98.t 4) v117 p122.2).bind fun H124=>(ld true 1 (o98.t 4) H124).bind fun v125=>Yr ([v125,p122.1,.int .i64 0,v123].all notTup) <|some (.tuple ⟨[v125,p122.1,.int .i64 0,v123]⟩,H124,q111.2.2+13))))
 (Vs o98.e
 ((ld true 1 (o98.t 4) o98.H).bind fun v126=>Yr ([v126,o98.t 5,o98.t 6,o98.t 7].all notTup) <|some (.tuple ⟨[v126,o98.t 5,o98.t 6,o98.t 7]⟩,o98.H,o98.n)))))
theorem s129 (C:Zb)(L:Zc->Zc)(t:Tm)(H:Hp)(n:Nat):Zq Tryz.prog C L Tryz.f129 t H n=S129 C L t H n:=by kernel_rfl
theorem c129 (args:List Value)(H:Hp)(n:Nat):Call Tryz.prog 129 args H n=S129 (Call Tryz.prog) Zm (Zp args) H n:=(Zg Tryz.func129 args H n).trans (s129 ..)
noncomputable def S130 (C:Zb)(L:Zc->Zc)(t:Tm)(H:Hp)(n:Nat):Option (Value × Hp × Nat) :=
 (C 108 [t 0,.int .i64 4] H (n+4)).bind fun q1=>(un .not q1.1).bind fun v2=>csel v2
 ((C 148 [] q1.2.1 (q1.2.2+4)).bind fun q3=>(C 110 [t 0,q3.1] q3.2.1 (q3.2.2)).bind fun q4=>some (q4.1,q4.2.1,q4.2.2))
 ((C 149 [t 0,.int .i64 3] q1.2.1 (q1.2.2+3)).bind fun q5=>some (q5.1,q5.2.1,q5.2.2))
theorem s130 (C:Zb)(L:Zc->Zc)(t:Tm)(H:Hp)(n:Nat):Zq Tryz.prog C L Tryz.f130 t H n=S130 C L t H n:=by kernel_rfl
theorem c130 (args:List Value)(H:Hp)(n:Nat):Call Tryz.prog 130 args H n=S130 (Call Tryz.prog) Zm (Zp args) H n:=(Zg Tryz.func130 args H n).trans (s130 ..)
noncomputable def S131L1 (C:Zb)(L:Zc->Zc):Zc:=fun t H n=>(Zx false (t 1)).bind fun v28=>(Zd .plain .lss (t 9) v28).bind fun v29=>csel v29
 ((Zo 1 (t 1) (t 9)).bind fun v30=>(ld false 1 v30 H).bind fun v31=>(C 150 [t 8,v31] H (n+10)).bind fun q32=>(Zh (t 8)).bind fun v33=>(Za 3 v33).bind fun v34=>(ld false 1 v34 q32.2.1).bind fun v35=>(Zd .plain .eql v35 (.int .i64 3)).bind fun v36=>csel v36
 ((Xf [nilS,nilS,nilS] []).bind fun v37=>(st true 3 (t 4) v37 q32.2.1).bind fun H38=>some ⟨.ret,put (put (put (put (put (put (put (put (put (put (put (put (put (put (put (put (put (put t 33 (t 9)) 34 (t 1)) 35 v28) 36 v29) 39 (t 8)) 40 (t 1)) 41 (t 9)) 42 v30) 43 v31) 44 q32.1) 45 (t 8)) 46 v33) 47 v34) 48 v35) 49 v36) 50 v37) 5 (.int .i64 3)) 6 (.int .i64 0),H38,q32.2.2+9⟩)
 ((Zh (t 8)).bind fun v39=>(Za 3 v39).bind fun v40=>(ld false 1 v40 q32.2.1).bind fun v41=>(Zd .plain .neq v41 (.int .i64 0)).bind fun v42=>csel v42
 ((Xf [nilS,nilS,nilS] []).bind fun v43=>(Zh (t 8)).bind fun v44=>(Za 3 v44).bind fun v45=>(ld false 1 v45 q32.2.1).bind fun v46=>(st true 3 (t 4) v43 q32.2.1).bind fun H47=>ask (ld false 1 v45 H47=some v46) <|some ⟨.ret,put (put (put (put (put (put (put (put (put (put (put (put (put (put (put (put (put (put (put (put (put (put (put (put (put (put (put (put t 33 (t 9)) 34 (t 1)) 35 v28) 36 v29) 39 (t 8)) 40 (t 1)) 41 (t 9)) 42 v30) 43 v31) 44 q32.1) 45 (t 8)) 46 v33) 47 v34) 48 v35) 49 v36) 51 (t 8)) 52 v39) 53 v40) 54 v41) 55 v42) 56 v43) 57 (t 8)) 58 v44) 59 v45) 60 v46) 61 (t 9)) 5 v46) 6 (t 9),H47,q32.2.2+19⟩)
 ((Zd .plain .add (t 9) (.int .i64 1)).bind fun v48=>some ⟨.normal,put (put (put (put (put (put (put (put (put (put (put (put (put (put (put (put (put (put (put (put (put (put (put t 33 (t 9)) 34 (t 1)) 35 v28) 36 v29) 39 (t 8)) 40 (t 1)) 41 (t 9)) 42 v30) 43 v31) 44 q32.1) 45 (t 8)) 46 v33) 47 v34) 48 v35) 49 v36) 51 (t 8)) 52 v39) 53 v40) 54 v41) 55 v42) 37 (t 9)) 38 v48) 9 v48,q32.2.1,q32.2.2+13⟩)))
 (some ⟨(.exit 2),put (put (put (put t 33 (t 9)) 34 (t 1)) 35 v28) 36 v29,H,n+4⟩)
noncomputable def S131L0 (C:Zb)(L:Zc->Zc):Zc:=fun t H n=>(Zx false (t 1)).bind fun v11=>(Zd .plain .lss (t 7) v11).bind fun v12=>csel v12
 ((ld true 1 (t 2) H).bind fun v13=>(Zo 1 (t 1) (t 7)).bind fun v14=>(ld false 1 v14 H).bind fun v15=>(C 46 [v13,v15] H (n+11)).bind fun q16=>(un .not q16.1).bind fun v17=>csel v17
 ((Xf [nilS,nilS,nilS] []).bind fun v18=>(st true 3 (t 4) v18 q16.2.1).bind fun H19=>some ⟨.ret,put (put (put (put (put (put (put (put (put (put (put (put (put (put t 15 (t 7)) 16 (t 1)) 17 v11) 18 v12) 21 v13) 22 (t 1)) 23 (t 7)) 24 v14) 25 v15) 26 q16.1) 27 v17) 28 v18) 5 (.int .i64 3)) 6 (.int .i64 0),H19,q16.2.2+4⟩)
 ((Zd .plain .add (t 7) (.int .i64 1)).bind fun v20=>some ⟨.normal,put (put (put (put (put (put (put (put (put (put (put (put (put (put t 15 (t 7)) 16 (t 1)) 17 v11) 18 v12) 21 v13) 22 (t 1)) 23 (t 7)) 24 v14) 25 v15) 26 q16.1) 27 v17) 19 (t 7)) 20 v20) 7 v20,q16.2.1,q16.2.2+3⟩))
 (some ⟨(.exit 0),put (put (put (put t 15 (t 7)) 16 (t 1)) 17 v11) 18 v12,H,n+4⟩)
noncomputable def S131 (C:Zb)(L:Zc->Zc)(t:Tm)(H:Hp)(n:Nat):Option (Value × Hp × Nat) :=
 (Zs (t 0)).bind fun c2=>let H1:=H.set (n) (some (.row c2 0 true))
 let H3:=H1.set (n+1) (some (.row [nilS,nilS,nilS] 0 true))
 (ld true 1 (ptr (n) 0) H3).bind fun v4=>(C 45 [v4] H3 (n+7)).bind fun q5=>(un .not q5.1).bind fun v6=>csel v6
 ((Xf [nilS,nilS,nilS] []).bind fun v7=>(st true 3 (ptr (n+1) 0) v7 q5.2.1).bind fun H8=>(ld true 3 (ptr (n+1) 0) H8).bind fun v9=>Yr ([v9,.int .i64 3,.int .i64 0].all notTup) <|some (.tuple ⟨[v9,.int .i64 3,.int .i64 0]⟩,H8,q5.2.2+4))
 ((L (S131L0 C L) (put (put (put (put (put (put (put (put t 2 (ptr (n) 0)) 4 (ptr (n+1) 0)) 5 (.int .i64 0)) 6 (.int .i64 0)) 11 v4) 12 q5.1) 13 v6) 7 (.int .i64 0)) q5.2.1 (q5.2.2+1)).bind fun(o10:Out)=>let o21:=outOf 0 o10
 Xe o21
 ((ld true 1 (o21.t 2) o21.H).bind fun v22=>(C 51 [v22] o21.H (o21.n+5)).bind fun q23=>(Xf [nilS,nilS,nilS,.int .i64 0] [(0,1,q23.1)]).bind fun v24=>(Zs v24).bind fun c26=>let H25:=q23.2.1.set (o21.n+3) (some (.row c26 0 true))
 (L (S131L1 C L) (put (put (put (put (put (put o21.t 29 v22) 30 q23.1) 31 v24) 32 (ptr (o21.n+3) 0)) 8 (ptr (o21.n+3) 0)) 9 (.int .i64 0)) H25 (q23.2.2+1)).bind fun(o27:Out)=>let o49:=outOf 2 o27
 Xe o49
 ((Zh (o49.t 8)).bind fun v50=>(Za 0 v50).bind fun v51=>(ld true 1 v51 o49.H).bind fun v52=>(Zh (o49.t 8)).bind fun v53=>(Za 1 v53).bind fun v54=>(ld false 1 v54 o49.H).bind fun v55=>(Zh (o49.t 8)).bind fun v56=>(Za 2 v56).bind fun v57=>(ld false 1 v57 o49.H).bind fun v58=>(Xf [nilS,nilS,nilS] [(0,1,v52),(1,1,v55),(2,1,v58)]).bind fun v59=>let H60:=o49.H.set (o49.n+13) (some (.row [nilS,nilS,nilS] 0 true))
 (st true 3 (ptr (o49.n+13) 0) v59 H60).bind fun H61=>(ld true 3 (ptr (o49.n+13) 0) H61).bind fun v62=>(C 44 [v62] H61 (o49.n+18)).bind fun q63=>(un .not q63.1).bind fun v64=>csel v64
 ((Xf [nilS,nilS,nilS] []).bind fun v65=>(st true 3 (o49.t 4) v65 q63.2.1).bind fun H66=>(ld true 3 (o49.t 4) H66).bind fun v67=>Yr ([v67,.int .i64 3,.int .i64 0].all notTup) <|some (.tuple ⟨[v67,.int .i64 3,.int .i64 0]⟩,H66,q63.2.2+4))
 ((ld true 3 (ptr (o49.n+13) 0) q63.2.1).bind fun v68=>(Zx false (o49.t 1)).bind fun v69=>(st true 3 (o49.t 4) v68 q63.2.1).bind fun H70=>(ld true 3 (o49.t 4) H70).bind fun v71=>Yr ([v71,.int .i64 0,v69].all notTup) <|some (.tuple ⟨[v71,.int .i64 0,v69]⟩,H70,q63.2.2+6)))
 (Vs o49.e
 ((ld true 3 (o49.t 4) o49.H).bind fun v72=>Yr ([v72,o49.t 5,o49.t 6].all notTup) <|some (.tuple ⟨[v72,o49.t 5,o49.t 6]⟩,o49.H,o49.n))))
 (Vs o21.e
 ((ld true 3 (o21.t 4) o21.H).bind fun v73=>Yr ([v73,o21.t 5,o21.t 6].all notTup) <|some (.tuple ⟨[v73,o21.t 5,o21.t 6]⟩,o21.H,o21.n))))
theorem s131 (C:Zb)(L:Zc->Zc)(t:Tm)(H:Hp)(n:Nat):Zq Tryz.prog C L Tryz.f131 t H n=S131 C L t H n:=by kernel_rfl
theorem c131 (args:List Value)(H:Hp)(n:Nat):Call Tryz.prog 131 args H n=S131 (Call Tryz.prog) Zm (Zp args) H n:=(Zg Tryz.func131 args H n).trans (s131 ..)
noncomputable def S132 (C:Zb)(L:Zc->Zc)(t:Tm)(H:Hp)(n:Nat):Option (Value × Hp × Nat) :=
 (Zs (t 0)).bind fun c2=>let H1:=H.set (n) (some (.row c2 0 true))
 (Zs (t 1)).bind fun c4=>let H3:=H1.set (n+1) (some (.row c4 0 true))
 (Zs (t 2)).bind fun c6=>let H5:=H3.set (n+2) (some (.row c6 0 true))
 let H7:=H5.set (n+3) (some (.row [nilS,.int .i64 0,.int .i64 0,.int .i64 0,.int .i64 0,.int .i64 0,.int .i64 0,.int .i64 0] 0 true))
 (ld true 3 (ptr (n) 0) H7).bind fun v8=>(ld true 8 (ptr (n+1) 0) H7).bind fun v9=>(C 19 [v8,v9] H7 (n+8)).bind fun q10=>(un .not q10.1).bind fun v11=>csel v11
 ((Xf [nilS,.int .i64 0,.int .i64 0,.int .i64 0,.int .i64 0,.int .i64 0,.int .i64 0,.int .i64 0] [(5,1,.int .i64 3),(6,1,.int .i64 7)]).bind fun v12=>(st true 8 (ptr (n+3) 0) v12 q10.2.1).bind fun H13=>(ld true 8 (ptr (n+3) 0) H13).bind fun v14=>some (v14,H13,q10.2.2+2))
 ((Za 5 (ptr (n+1) 0)).bind fun v15=>(ld false 1 v15 q10.2.1).bind fun v16=>(Zd .plain .neq v16 (.int .i64 1)).bind fun v17=>let t19:Tm:=put (put (put (put (put (put (put (put (put (put (put (put t 4 (ptr (n) 0)) 5 (ptr (n+1) 0)) 6 (ptr (n+2) 0)) 8 (ptr (n+3) 0)) 10 v8) 11 v9) 12 q10.1) 13 v11) 15 v15) 16 v16) 17 v17) 18 v17
 (gsel v17 false
 ((ld true 1 (ptr (n+2) 0) q10.2.1).bind fun v20=>(C 45 [v20] q10.2.1 (q10.2.2+14)).bind fun q21=>(un .not q21.1).bind fun v22=>some (put (put (put t19 19 v20) 20 q21.1) 21 v22,q21.2.1,q21.2.2))
 (some (put (put (put t19 19 (.tuple #[])) 20 (.tuple #[])) 21 (.tuple #[]),q10.2.1,q10.2.2+14))
 ).bind fun(q18:R3)=>(Zl (q18.1 18) (.bool true) (q18.1 21)).bind fun v23=>let t25:Tm:=put (put q18.1 22 v23) 23 v23
 (gsel v23 false
 ((ld true 1 (t25 6) q18.2.1).bind fun v26=>(C 46 [v26,t25 3] q18.2.1 (q18.2.2)).bind fun q27=>(un .not q27.1).bind fun v28=>some (put (put (put (put t25 24 v26) 25 (t25 3)) 26 q27.1) 27 v28,q27.2.1,q27.2.2))
 (some (put (put (put (put t25 24 (.tuple #[])) 25 (.tuple #[])) 26 (.tuple #[])) 27 (.tuple #[]),q18.2.1,q18.2.2))
 ).bind fun(q24:R3)=>(Zl (q24.1 23) (.bool true) (q24.1 27)).bind fun v29=>csel v29
 ((ld true 8 (q24.1 5) q24.2.1).bind fun v30=>(C 23 [v30] q24.2.1 (q24.2.2+3)).bind fun q31=>(st true 8 (q24.1 8) q31.1 q31.2.1).bind fun H32=>(ld true 8 (q24.1 8) H32).bind fun v33=>some (v33,H32,q31.2.2))
 ((ld true 8 (q24.1 5) q24.2.1).bind fun v34=>(C 23 [v34] q24.2.1 (q24.2.2+4)).bind fun q35=>let H36:=q35.2.1.set (q24.2.2+2) (some (.row [nilS,.int .i64 0,.int .i64 0,.int .i64 0,.int .i64 0,.int .i64 0,.int .i64 0,.int .i64 0] 0 true))
 (st true 8 (ptr (q24.2.2+2) 0) q35.1 H36).bind fun H37=>(Za 0 (ptr (q24.2.2+2) 0)).bind fun v38=>(ld true 1 (q24.1 6) H37).bind fun v39=>(C 84 [v38,v39,q24.1 3] H37 (q35.2.2+5)).bind fun q40=>(C 83 [ptr (q24.2.2+2) 0,q40.1] q40.2.1 (q40.2.2)).bind fun q41=>(Za 1 (q24.1 5)).bind fun v42=>(ld false 1 v42 q41.2.1).bind fun v43=>(Zd .plain .add v43 (.int .i64 1)).bind fun v44=>(Za 1 (ptr (q24.2.2+2) 0)).bind fun v45=>(st false 1 v45 v44 q41.2.1).bind fun H46=>(Za 5 (ptr (q24.2.2+2) 0)).bind fun v47=>(st false 1 v47 (.int .i64 0) H46).bind fun H48=>(Za 6 (ptr (q24.2.2+2) 0)).bind fun v49=>(st false 1 v49 (.int .i64 0) H48).bind fun H50=>(Za 7 (ptr (q24.2.2+2) 0)).bind fun v51=>(st false 1 v51 (.int .i64 0) H50).bind fun H52=>(Za 1 (ptr (q24.2.2+2) 0)).bind fun v53=>(ld false 1 v53 H52).bind fun v54=>(Za 1 (q24.1 4)).bind fun v55=>(ld false 1 v55 H52).bind fun v56=>(Zx false v56).bind fun v57=>(Zd .plain .geq v54 v57).bind fun v58=>csel v58
 ((ld true 8 (q24.1 5) H52).bind fun v59=>(C 53 [v59,.int .i64 7] H52 (q41.2.2+21)).bind fun q60=>(st true 8 (q24.1 8) q60.1 q60.2.1).bind fun H61=>(ld true 8 (q24.1 8) H61).bind fun v62=>some (v62,H61,q60.2.2))
 ((Za 0 (ptr (q24.2.2+2) 0)).bind fun v63=>(Za 0 v63).bind fun v64=>(ld false 1 v64 H52).bind fun v65=>(Zx false v65).bind fun v66=>(Zd .plain .gtr v66 (.int .i64 3000)).bind fun v67=>csel v67
 ((ld true 8 (q24.1 5) H52).bind fun v68=>(C 53 [v68,.int .i64 6] H52 (q41.2.2+27)).bind fun q69=>(st true 8 (q24.1 8) q69.1 q69.2.1).bind fun H70=>(ld true 8 (q24.1 8) H70).bind fun v71=>some (v71,H70,q69.2.2))
 ((ld true 8 (ptr (q24.2.2+2) 0) H52).bind fun v72=>(st true 8 (q24.1 8) v72 H52).bind fun H73=>(ld true 8 (q24.1 8) H73).bind fun v74=>some (v74,H73,q41.2.2+26)))))
theorem s132 (C:Zb)(L:Zc->Zc)(t:Tm)(H:Hp)(n:Nat):Zq Tryz.prog C L Tryz.f132 t H n=S132 C L t H n:=by kernel_rfl
theorem c132 (args:List Value)(H:Hp)(n:Nat):Call Tryz.prog 132 args H n=S132 (Call Tryz.prog) Zm (Zp args) H n:=(Zg Tryz.func132 args H n).trans (s132 ..)
noncomputable def S133 (C:Zb)(L:Zc->Zc)(t:Tm)(H:Hp)(n:Nat):Option (Value × Hp × Nat) :=
 let H1:=H.set (n) (some (.row [.int .i64 0,.int .i64 0,.string ⟨#[]⟩,.int .i64 0,.int .i64 0] 0 true))
 (C 69 [t 0,.int .i64 8] H1 (n+3)).bind fun q2=>(Zd .plain .eql q2.1 (.int .i64 0)).bind fun v3=>csel v3
 ((Xf [.int .i64 0,.int .i64 0,.string ⟨#[]⟩,.int .i64 0,.int .i64 0] [(0,1,.int .i64 1)]).bind fun v4=>(st true 5 (ptr (n) 0) v4 q2.2.1).bind fun H5=>(ld true 5 (ptr (n) 0) H5).bind fun v6=>some (v6,H5,q2.2.2+4))
 ((Zd .plain .eql q2.1 (.int .i64 1)).bind fun v7=>csel v7
 ((C 69 [t 0,.int .i64 2] q2.2.1 (q2.2.2+8)).bind fun q8=>(Xf [.int .i64 0,.int .i64 0,.string ⟨#[]⟩,.int .i64 0,.int .i64 0] [(0,1,.int .i64 2),(1,1,q8.1)]).bind fun v9=>(st true 5 (ptr (n) 0) v9 q8.2.1).bind fun H10=>(ld true 5 (ptr (n) 0) H10).bind fun v11=>some (v11,H10,q8.2.2))
 ((Zd .plain .eql q2.1 (.int .i64 2)).bind fun v12=>csel v12
 ((Xx (q2.2.2+7) 1 6 [.string ⟨#[]⟩] [(0,1,.string ⟨#[97]⟩),(1,1,.string ⟨#[98,99]⟩),(2,1,.string ⟨#[120]⟩),(3,1,.string ⟨#[102]⟩),(4,1,.string ⟨#[43]⟩),(5,1,.string ⟨#[108,105,115,116]⟩)] q2.2.1).bind fun p13=>(C 110 [t 0,p13.1] p13.2 (q2.2.2+11)).bind fun q14=>(Xf [.int .i64 0,.int .i64 0,.string ⟨#[]⟩,.int .i64 0,.int .i64 0] [(0,1,.int .i64 4),(2,1,q14.1)]).bind fun v15=>(st true 5 (ptr (n) 0) v15 q14.2.1).bind fun H16=>(ld true 5 (ptr (n) 0) H16).bind fun v17=>some (v17,H16,q14.2.2))
 ((Zd .plain .eql q2.1 (.int .i64 3)).bind fun v18=>csel v18
 ((C 69 [t 0,.int .i64 5] q2.2.1 (q2.2.2+12)).bind fun q19=>(Xf [.int .i64 0,.int .i64 0,.string ⟨#[]⟩,.int .i64 0,.int .i64 0] [(0,1,.int .i64 9),(1,1,q19.1)]).bind fun v20=>(st true 5 (ptr (n) 0) v20 q19.2.1).bind fun H21=>(ld true 5 (ptr (n) 0) H21).bind fun v22=>some (v22,H21,q19.2.2))
 ((Zd .plain .eql q2.1 (.int .i64 4)).bind fun v23=>csel v23
 ((C 69 [t 0,.int .i64 5] q2.2.1 (q2.2.2+14)).bind fun q24=>(Xf [.int .i64 0,.int .i64 0,.string ⟨#[]⟩,.int .i64 0,.int .i64 0] [(0,1,.int .i64 8),(1,1,q24.1)]).bind fun v25=>(st true 5 (ptr (n) 0) v25 q24.2.1).bind fun H26=>(ld true 5 (ptr (n) 0) H26).bind fun v27=>some (v27,H26,q24.2.2))
 ((C 69 [t 0,.int .i64 12] q2.2.1 (q2.2.2+15)).bind fun q28=>(Zd .plain .sub q28.1 (.int .i64 3)).bind fun v29=>(Xf [.int .i64 0,.int .i64 0,.string ⟨#[]⟩,.int .i64 0,.int .i64 0] [(0,1,.int .i64 3),(1,1,v29)]).bind fun v30=>(st true 5 (ptr (n) 0) v30 q28.2.1).bind fun H31=>(ld true 5 (ptr (n) 0) H31).bind fun v32=>some (v32,H31,q28.2.2))))))
theorem s133 (C:Zb)(L:Zc->Zc)(t:Tm)(H:Hp)(n:Nat):Zq Tryz.prog C L Tryz.f133 t H n=S133 C L t H n:=by kernel_rfl
theorem c133 (args:List Value)(H:Hp)(n:Nat):Call Tryz.prog 133 args H n=S133 (Call Tryz.prog) Zm (Zp args) H n:=(Zg Tryz.func133 args H n).trans (s133 ..)
noncomputable def S134 (C:Zb)(L:Zc->Zc)(t:Tm)(H:Hp)(n:Nat):Option (Value × Hp × Nat) :=
 let H1:=H.set (n) (some (.row [.int .i64 0,.int .i64 0,.string ⟨#[]⟩,.int .i64 0,.int .i64 0] 0 true))
 (Zd .plain .eql (t 1) (.int .i64 0)).bind fun v2=>let t4:Tm:=put (put (put (put t 4 (ptr (n) 0)) 6 (t 1)) 7 v2) 8 v2
 (gsel v2 false
 ((C 108 [t4 0,.int .i64 2] H1 (n+7)).bind fun q5=>some (put (put t4 9 (t4 0)) 10 q5.1,q5.2.1,q5.2.2))
 (some (put (put t4 9 (.tuple #[])) 10 (.tuple #[]),H1,n+7))
 ).bind fun(q3:R3)=>(Zl (q3.1 8) (.bool true) (q3.1 10)).bind fun v6=>csel v6
 ((C 133 [q3.1 0] q3.2.1 (q3.2.2+3)).bind fun q7=>(st true 5 (q3.1 4) q7.1 q7.2.1).bind fun H8=>(ld true 5 (q3.1 4) H8).bind fun v9=>some (v9,H8,q7.2.2))
 ((Zd .plain .sub (q3.1 1) (.int .i64 1)).bind fun v10=>(C 109 [q3.1 1,.int .i64 5] q3.2.1 (q3.2.2+8)).bind fun q11=>(C 69 [q3.1 0,q11.1] q11.2.1 (q11.2.2)).bind fun q12=>(Zd .plain .sub v10 q12.1).bind fun v13=>(C 69 [q3.1 0,.int .i64 8] q12.2.1 (q12.2.2+2)).bind fun q14=>(Zd .plain .eql q14.1 (.int .i64 0)).bind fun v15=>csel v15
 ((C 69 [q3.1 0,.int .i64 9] q14.2.1 (q14.2.2+7)).bind fun q16=>(Xf [.int .i64 0,.int .i64 0,.string ⟨#[]⟩,.int .i64 0,.int .i64 0] [(0,1,.int .i64 6),(1,1,q16.1),(3,1,v13)]).bind fun v17=>(st true 5 (q3.1 4) v17 q16.2.1).bind fun H18=>(ld true 5 (q3.1 4) H18).bind fun v19=>some (v19,H18,q16.2.2))
 ((Zd .plain .eql q14.1 (.int .i64 1)).bind fun v20=>csel v20
 ((Xf [.int .i64 0,.int .i64 0,.string ⟨#[]⟩,.int .i64 0,.int .i64 0] [(0,1,.int .i64 7),(3,1,v13)]).bind fun v21=>(st true 5 (q3.1 4) v21 q14.2.1).bind fun H22=>(ld true 5 (q3.1 4) H22).bind fun v23=>some (v23,H22,q14.2.2+7))
 ((Zd .plain .sub (q3.1 1) (.int .i64 1)).bind fun v24=>(C 109 [q3.1 1,.int .i64 4] q14.2.1 (q14.2.2+14)).bind fun q25=>(C 69 [q3.1 0,q25.1] q25.2.1 (q25.2.2)).bind fun q26=>(Zd .plain .sub v24 q26.1).bind fun v27=>(Xf [.int .i64 0,.int .i64 0,.string ⟨#[]⟩,.int .i64 0,.int .i64 0] [(0,1,.int .i64 5),(3,1,v13),(4,1,v27)]).bind fun v28=>(st true 5 (q3.1 4) v28 q26.2.1).bind fun H29=>(ld true 5 (q3.1 4) H29).bind fun v30=>some (v30,H29,q26.2.2))))
theorem s134 (C:Zb)(L:Zc->Zc)(t:Tm)(H:Hp)(n:Nat):Zq Tryz.prog C L Tryz.f134 t H n=S134 C L t H n:=by kernel_rfl
theorem c134 (args:List Value)(H:Hp)(n:Nat):Call Tryz.prog 134 args H n=S134 (Call Tryz.prog) Zm (Zp args) H n:=(Zg Tryz.func134 args H n).trans (s134 ..)
noncomputable def S135 (C:Zb)(L:Zc->Zc)(t:Tm)(H:Hp)(n:Nat):Option (Value × Hp × Nat) :=
 (C 151 [t 0,t 1] H (n+6)).bind fun q1=>(Zd .plain .geq q1.1 (.int .i64 0)).bind fun v2=>some (v2,q1.2.1,q1.2.2)
theorem s135 (C:Zb)(L:Zc->Zc)(t:Tm)(H:Hp)(n:Nat):Zq Tryz.prog C L Tryz.f135 t H n=S135 C L t H n:=by kernel_rfl
theorem c135 (args:List Value)(H:Hp)(n:Nat):Call Tryz.prog 135 args H n=S135 (Call Tryz.prog) Zm (Zp args) H n:=(Zg Tryz.func135 args H n).trans (s135 ..)
noncomputable def S136 (C:Zb)(L:Zc->Zc)(t:Tm)(H:Hp)(n:Nat):Option (Value × Hp × Nat) :=
 (Xx (n+1) 1 20 [.string ⟨#[]⟩] [(0,1,.string ⟨#[]⟩),(1,1,.string ⟨#[43]⟩),(2,1,.string ⟨#[45]⟩),(3,1,.string ⟨#[42]⟩),(4,1,.string ⟨#[60]⟩),(5,1,.string ⟨#[61]⟩),(6,1,.string ⟨#[99,111,110,115]⟩),(7,1,.string ⟨#[99,97,114]⟩),(8,1,.string ⟨#[99,100,114]⟩),(9,1,.string ⟨#[110,117,108,108,63]⟩),(10,1,.string ⟨#[112,97,105,114,63]⟩),(11,1,.string ⟨#[101,113,63]⟩),(12,1,.string ⟨#[110,111,116]⟩),(13,1,.string ⟨#[112,114,105,110,116]⟩),(14,1,.string ⟨#[115,101,108,102]⟩),(15,1,.string ⟨#[115,101,110,100]⟩),(16,1,.string ⟨#[114,101,99,118]⟩),(17,1,.string ⟨#[115,112,97,119,110]⟩),(18,1,.string ⟨#[99,97,108,108,99,99]⟩),(19,1,.string ⟨#[103,111]⟩)] H).bind fun p1=>some (p1.1,p1.2,n+3)
theorem s136 (C:Zb)(L:Zc->Zc)(t:Tm)(H:Hp)(n:Nat):Zq Tryz.prog C L Tryz.f136 t H n=S136 C L t H n:=by kernel_rfl
theorem c136 (args:List Value)(H:Hp)(n:Nat):Call Tryz.prog 136 args H n=S136 (Call Tryz.prog) Zm (Zp args) H n:=(Zg Tryz.func136 args H n).trans (s136 ..)
noncomputable def S137L0 (C:Zb)(L:Zc->Zc):Zc:=fun t H n=>(Zd .plain .geq (t 6) (.int .i64 0)).bind fun v6=>csel v6
 ((Zo 1 (t 1) (t 6)).bind fun v7=>(ld false 1 v7 H).bind fun v8=>(Xf [.int .i64 0,.int .i64 0,.string ⟨#[]⟩,.int .i64 0,.int .i64 0] [(0,1,.int .i64 5),(3,1,v8),(4,1,t 5)]).bind fun v9=>(C 88 [t 0,v9] H (n+11)).bind fun q10=>(Zd .plain .sub (t 6) (.int .i64 1)).bind fun v11=>some ⟨.normal,put (put (put (put (put (put (put (put (put (put (put (put (put (put t 13 (t 6)) 14 v6) 17 (t 0)) 18 (t 1)) 19 (t 6)) 20 v7) 21 v8) 22 (t 5)) 23 v9) 24 q10.1) 5 q10.1) 15 (t 6)) 16 v11) 6 v11,q10.2.1,q10.2.2+3⟩)
 (some ⟨(.exit 0),put (put t 13 (t 6)) 14 v6,H,n+2⟩)
noncomputable def S137 (C:Zb)(L:Zc->Zc)(t:Tm)(H:Hp)(n:Nat):Option (Value × Hp × Nat) :=
 (Xf [.int .i64 0,.int .i64 0,.string ⟨#[]⟩,.int .i64 0,.int .i64 0] [(0,1,.int .i64 1)]).bind fun v1=>(C 88 [t 0,v1] H (n+5)).bind fun q2=>(Zx false (t 1)).bind fun v3=>(Zd .plain .sub v3 (.int .i64 1)).bind fun v4=>(L (S137L0 C L) (put (put (put (put (put (put (put (put (put t 4 (.int .i64 0)) 7 (t 0)) 8 v1) 9 q2.1) 5 q2.1) 10 (t 1)) 11 v3) 12 v4) 6 v4) q2.2.1 (q2.2.2+4)).bind fun(o5:Out)=>some (o5.t 5,o5.H,o5.n+2)
theorem s137 (C:Zb)(L:Zc->Zc)(t:Tm)(H:Hp)(n:Nat):Zq Tryz.prog C L Tryz.f137 t H n=S137 C L t H n:=by kernel_rfl
theorem c137 (args:List Value)(H:Hp)(n:Nat):Call Tryz.prog 137 args H n=S137 (Call Tryz.prog) Zm (Zp args) H n:=(Zg Tryz.func137 args H n).trans (s137 ..)
noncomputable def S138 (C:Zb)(L:Zc->Zc)(t:Tm)(H:Hp)(n:Nat):Option (Value × Hp × Nat) :=
 (Zs (t 0)).bind fun c2=>let H1:=H.set (n) (some (.row c2 0 true))
 (Zx false (t 3)).bind fun v3=>(C 152 [t 2] H1 (n+7)).bind fun q4=>(Zd .plain .neq v3 q4.1).bind fun v5=>csel v5
 (some (.int .i64 2,q4.2.1,q4.2.2+1))
 ((Zd .plain .eql (t 2) (.int .i64 18)).bind fun v6=>csel v6
 ((Zh (t 1)).bind fun v7=>(Za 0 v7).bind fun v8=>(Xf [.int .i64 0,.int .i64 0,.string ⟨#[]⟩,.int .i64 0,.int .i64 0] [(0,1,.int .i64 3),(1,1,t 4)]).bind fun v9=>(C 88 [v8,v9] q4.2.1 (q4.2.2+10)).bind fun q10=>(Zh (t 1)).bind fun v11=>(Za 0 v11).bind fun v12=>(Zh (t 1)).bind fun v13=>(Za 2 v13).bind fun v14=>(ld false 1 v14 q10.2.1).bind fun v15=>(Zh (t 1)).bind fun v16=>(Za 3 v16).bind fun v17=>(ld false 1 v17 q10.2.1).bind fun v18=>(Zh (t 1)).bind fun v19=>(Za 4 v19).bind fun v20=>(ld false 1 v20 q10.2.1).bind fun v21=>(Xx (q10.2.2+16) 1 4 [.int .i64 0] [(0,1,q10.1),(1,1,v15),(2,1,v18),(3,1,v21)] q10.2.1).bind fun p22=>(C 137 [v12,p22.1] p22.2 (q10.2.2+19)).bind fun q23=>(Zh (t 1)).bind fun v24=>(Za 0 v24).bind fun v25=>(Xf [.int .i64 0,.int .i64 0,.string ⟨#[]⟩,.int .i64 0,.int .i64 0] [(0,1,.int .i64 7),(3,1,q23.1)]).bind fun v26=>(C 88 [v25,v26] q23.2.1 (q23.2.2+7)).bind fun q27=>(ld true 3 (ptr (n) 0) q27.2.1).bind fun v28=>(Zo 1 (t 3) (.int .i64 0)).bind fun v29=>(ld false 1 v29 q27.2.1).bind fun v30=>(Xx (q27.2.2+6) 1 1 [.int .i64 0] [(0,1,q27.1)] q27.2.1).bind fun p31=>(C 120 [v28,t 1,v30,p31.1,t 4] p31.2 (q27.2.2+10)).bind fun q32=>some (q32.1,q32.2.1,q32.2.2))
 ((Zd .plain .gtr (t 2) (.int .i64 12)).bind fun v33=>csel v33
 ((Zh (t 1)).bind fun v34=>(Za 0 v34).bind fun v35=>(C 137 [v35,t 3] q4.2.1 (q4.2.2+15)).bind fun q36=>(Zh (t 1)).bind fun v37=>(Za 7 v37).bind fun v38=>(st false 1 v38 q36.1 q36.2.1).bind fun H39=>(Zh (t 1)).bind fun v40=>(Za 5 v40).bind fun v41=>(st false 1 v41 (.int .i64 1) H39).bind fun H42=>(Zh (t 1)).bind fun v43=>(Za 6 v43).bind fun v44=>(st false 1 v44 (t 2) H42).bind fun H45=>some (.int .i64 0,H45,q36.2.2+10))
 ((Zh (t 1)).bind fun v46=>(Za 0 v46).bind fun v47=>(C 153 [v47,t 2,t 3] q4.2.1 (q4.2.2+17)).bind fun q48=>(ext 0 q48.1).bind fun v49=>(ext 1 q48.1).bind fun v50=>(Zd .plain .eql v50 (.int .i64 3)).bind fun v51=>csel v51
 (some (.int .i64 4,q48.2.1,q48.2.2+4))
 ((Zd .plain .eql v50 (.int .i64 4)).bind fun v52=>csel v52
 (some (.int .i64 5,q48.2.1,q48.2.2+6))
 ((C 83 [t 1,v49] q48.2.1 (q48.2.2+8)).bind fun q53=>(Zh (t 1)).bind fun v54=>(Za 1 v54).bind fun v55=>(st false 1 v55 (t 4) q53.2.1).bind fun H56=>some (.int .i64 0,H56,q53.2.2+6))))))
theorem s138 (C:Zb)(L:Zc->Zc)(t:Tm)(H:Hp)(n:Nat):Zq Tryz.prog C L Tryz.f138 t H n=S138 C L t H n:=by kernel_rfl
theorem c138 (args:List Value)(H:Hp)(n:Nat):Call Tryz.prog 138 args H n=S138 (Call Tryz.prog) Zm (Zp args) H n:=(Zg Tryz.func138 args H n).trans (s138 ..)
noncomputable def S139L0 (C:Zb)(L:Zc->Zc):Zc:=fun t H n=>(Za 0 (t 2)).bind fun v5=>(ld false 1 v5 H).bind fun v6=>(Zo 5 v6 (t 1)).bind fun v7=>(Za 0 v7).bind fun v8=>(ld false 1 v8 H).bind fun v9=>(Zd .plain .eql v9 (.int .i64 5)).bind fun v10=>csel v10
 ((Za 0 (t 2)).bind fun v11=>(ld false 1 v11 H).bind fun v12=>(Zo 5 v12 (t 1)).bind fun v13=>(Za 3 v13).bind fun v14=>(ld false 1 v14 H).bind fun v15=>(Xx (n+14) 1 1 [.int .i64 0] [(0,1,v15)] H).bind fun p16=>(app (n+15) 1 8 (t 6) p16.1 p16.2).bind fun p17=>(Za 0 (t 2)).bind fun v18=>(ld false 1 v18 p17.2).bind fun v19=>(Zo 5 v19 (t 1)).bind fun v20=>(Za 4 v20).bind fun v21=>(ld false 1 v21 p17.2).bind fun v22=>some ⟨.normal,put (put (put (put (put (put (put (put (put (put (put (put (put (put (put (put (put (put (put (put (put (put (put (put t 8 v5) 9 v6) 10 (t 1)) 11 v7) 12 v8) 13 v9) 14 v10) 15 (t 6)) 16 v11) 17 v12) 18 (t 1)) 19 v13) 20 v14) 21 v15) 22 p16.1) 23 p17.1) 6 p17.1) 24 v18) 25 v19) 26 (t 1)) 27 v20) 28 v21) 29 v22) 1 v22,p17.2,n+24⟩)
 (some ⟨(.exit 0),put (put (put (put (put (put (put t 8 v5) 9 v6) 10 (t 1)) 11 v7) 12 v8) 13 v9) 14 v10,H,n+7⟩)
noncomputable def S139 (C:Zb)(L:Zc->Zc)(t:Tm)(H:Hp)(n:Nat):Option (Value × Hp × Nat) :=
 (Zs (t 0)).bind fun c2=>let H1:=H.set (n) (some (.row c2 0 true))
 (Xx (n+3) 1 0 [.int .i64 0] [] H1).bind fun p3=>(L (S139L0 C L) (put (put (put (put (put t 2 (ptr (n) 0)) 4 nilS) 5 (.bool false)) 7 p3.1) 6 p3.1) p3.2 (n+5)).bind fun(o4:Out)=>(Za 0 (o4.t 2)).bind fun v23=>(ld false 1 v23 o4.H).bind fun v24=>(Zo 5 v24 (o4.t 1)).bind fun v25=>(Za 0 v25).bind fun v26=>(ld false 1 v26 o4.H).bind fun v27=>(Zd .plain .neq v27 (.int .i64 1)).bind fun v28=>csel v28
 ((Xx (o4.n+7) 1 0 [.int .i64 0] [] o4.H).bind fun p29=>Yr ([p29.1,.bool false].all notTup) <|some (.tuple ⟨[p29.1,.bool false]⟩,p29.2,o4.n+10))
 (Yr ([o4.t 6,.bool true].all notTup) <|some (.tuple ⟨[o4.t 6,.bool true]⟩,o4.H,o4.n+10))
theorem s139 (C:Zb)(L:Zc->Zc)(t:Tm)(H:Hp)(n:Nat):Zq Tryz.prog C L Tryz.f139 t H n=S139 C L t H n:=by kernel_rfl
theorem c139 (args:List Value)(H:Hp)(n:Nat):Call Tryz.prog 139 args H n=S139 (Call Tryz.prog) Zm (Zp args) H n:=(Zg Tryz.func139 args H n).trans (s139 ..)
noncomputable def S140L0 (C:Zb)(L:Zc->Zc):Zc:=fun t H n=>(Zd .plain .geq (t 6) (.int .i64 0)).bind fun v6=>csel v6
 ((Zo 1 (t 1) (t 6)).bind fun v7=>(ld false 1 v7 H).bind fun v8=>(C 125 [t 0,v8,t 5] H (n+10)).bind fun q9=>(Zd .plain .sub (t 6) (.int .i64 1)).bind fun v10=>some ⟨.normal,put (put (put (put (put (put (put (put (put (put (put (put (put t 13 (t 6)) 14 v6) 17 (t 0)) 18 (t 1)) 19 (t 6)) 20 v7) 21 v8) 22 (t 5)) 23 q9.1) 5 q9.1) 15 (t 6)) 16 v10) 6 v10,q9.2.1,q9.2.2+3⟩)
 (some ⟨(.exit 0),put (put t 13 (t 6)) 14 v6,H,n+2⟩)
noncomputable def S140 (C:Zb)(L:Zc->Zc)(t:Tm)(H:Hp)(n:Nat):Option (Value × Hp × Nat) :=
 (Xf [.int .i64 0,.int .i64 0,.string ⟨#[]⟩,.int .i64 0,.int .i64 0] [(0,1,.int .i64 1)]).bind fun v1=>(C 101 [t 0,v1] H (n+5)).bind fun q2=>(Zx false (t 1)).bind fun v3=>(Zd .plain .sub v3 (.int .i64 1)).bind fun v4=>(L (S140L0 C L) (put (put (put (put (put (put (put (put (put t 4 (.int .i64 0)) 7 (t 0)) 8 v1) 9 q2.1) 5 q2.1) 10 (t 1)) 11 v3) 12 v4) 6 v4) q2.2.1 (q2.2.2+4)).bind fun(o5:Out)=>some (o5.t 5,o5.H,o5.n+2)
theorem s140 (C:Zb)(L:Zc->Zc)(t:Tm)(H:Hp)(n:Nat):Zq Tryz.prog C L Tryz.f140 t H n=S140 C L t H n:=by kernel_rfl
theorem c140 (args:List Value)(H:Hp)(n:Nat):Call Tryz.prog 140 args H n=S140 (Call Tryz.prog) Zm (Zp args) H n:=(Zg Tryz.func140 args H n).trans (s140 ..)
end Go.Proofs.YtcffcnipmgkjfaaGreat.Ax
