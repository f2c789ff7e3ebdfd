/- What the bodies of some functions of the program come to in the abstract machine. -/
import Derived.Test.YtbgkimkbngocjaaProg
import Derived.Test.YtbgkimkbngocjaaM0
set_option linter.unusedVariables false
namespace Go.Proofs.Ytbgkimkbngocjaa.Ax
open Go
set_option maxRecDepth 100000
noncomputable def S5 (C:Zp) (L:Zs→Zs) (t:Tm) (H:Hp) (n:Nat):Option (Value × Hp × Nat) :=
 (C 7 [t 0] H (n+3)).bind fun q1 =>
 csel q1.1
 (some (.bool true,q1.2.1,q1.2.2+1))
 ((C 16 [t 0] q1.2.1 (q1.2.2+8)).bind fun q2 =>
 (ext 0 q2.1).bind fun v3 =>
 (ext 1 q2.1).bind fun v4 =>
 let H5:=q2.2.1.set (q1.2.2+5) (some (.row [nilS,nilS,nilS] 0 true))
 (st true 3 (ptr (q1.2.2+5) 0) v3 H5).bind fun H6 =>
 (ld true 3 (ptr (q1.2.2+5) 0) H6).bind fun v7 =>
 (C 17 [v7,v4] H6 (q2.2.2+9)).bind fun q8 =>
 (ext 0 q8.1).bind fun v9 =>
 (ext 1 q8.1).bind fun v10 =>
 let H11:=q8.2.1.set (q2.2.2+6) (some (.row [nilS,.int .i64 0,.int .i64 0,.int .i64 0,.int .i64 0,.int .i64 0,.int .i64 0,.int .i64 0] 0 true))
 (st true 8 (ptr (q2.2.2+6) 0) v9 H11).bind fun H12 =>
 (ld true 3 (ptr (q1.2.2+5) 0) H12).bind fun v13 =>
 (C 18 [v13,v4] H12 (q8.2.2+9)).bind fun q14 =>
 (ext 0 q14.1).bind fun v15 =>
 (ext 1 q14.1).bind fun v16 =>
 let H17:=q14.2.1.set (q8.2.2+6) (some (.row [nilS,.int .i64 0,.int .i64 0,.int .i64 0,.int .i64 0,.int .i64 0,.int .i64 0,.int .i64 0] 0 true))
 (st true 8 (ptr (q8.2.2+6) 0) v15 H17).bind fun H18 =>
 (C 19 [t 0] H18 (q14.2.2+11)).bind fun q19 =>
 (ext 0 q19.1).bind fun v20 =>
 (ext 1 q19.1).bind fun v21 =>
 (ext 2 q19.1).bind fun v22 =>
 let H23:=q19.2.1.set (q14.2.2+6) (some (.row [nilS,nilS,nilS] 0 true))
 let H24:=H23.set (q14.2.2+7) (some (.row [nilS] 0 true))
 (st true 3 (ptr (q14.2.2+6) 0) v20 H24).bind fun H25 =>
 (st true 1 (ptr (q14.2.2+7) 0) v21 H25).bind fun H26 =>
 (ld true 3 (ptr (q14.2.2+6) 0) H26).bind fun v27 =>
 (ld true 1 (ptr (q14.2.2+7) 0) H26).bind fun v28 =>
 (C 20 [v27,v28,v22] H26 (q19.2.2+10)).bind fun q29 =>
 (ext 0 q29.1).bind fun v30 =>
 (ext 1 q29.1).bind fun v31 =>
 let H32:=q29.2.1.set (q19.2.2+7) (some (.row [nilS,.int .i64 0,.int .i64 0,.int .i64 0,.int .i64 0,.int .i64 0,.int .i64 0,.int .i64 0] 0 true))
 (st true 8 (ptr (q19.2.2+7) 0) v30 H32).bind fun H33 =>
 (ld true 3 (ptr (q14.2.2+6) 0) H33).bind fun v34 =>
 (ld true 1 (ptr (q14.2.2+7) 0) H33).bind fun v35 =>
 (C 21 [v34,v35,v22] H33 (q29.2.2+10)).bind fun q36 =>
 (ext 0 q36.1).bind fun v37 =>
 (ext 1 q36.1).bind fun v38 =>
 let H39:=q36.2.1.set (q29.2.2+7) (some (.row [nilS,.int .i64 0,.int .i64 0,.int .i64 0,.int .i64 0,.int .i64 0,.int .i64 0,.int .i64 0] 0 true))
 (st true 8 (ptr (q29.2.2+7) 0) v37 H39).bind fun H40 =>
 (Zr .bool .neq v10 v16).bind fun v41 =>
 let t43:Tm:=put (put (put (put (put (put (put (put (put (put (put (put (put (put (put (put (put (put (put (put (put (put (put (put (put (put (put (put (put (put (put (put (put (put (put (put (put (put (put (put (put (put (put (put (put (put (put (put (put (put (put (put (put (put (put (put (put t 2 (.bool false)) 16 (t 0)) 17 q1.1) 19 (t 0)) 20 q2.1) 18 q2.1) 21 v3) 22 v4) 3 (ptr (q1.2.2+5) 0)) 4 v4) 24 v7) 25 v4) 26 q8.1) 23 q8.1) 27 v9) 28 v10) 5 (ptr (q2.2.2+6) 0)) 6 v10) 30 v13) 31 v4) 32 q14.1) 29 q14.1) 33 v15) 34 v16) 7 (ptr (q8.2.2+6) 0)) 8 v16) 36 (t 0)) 37 q19.1) 35 q19.1) 38 v20) 39 v21) 40 v22) 9 (ptr (q14.2.2+6) 0)) 10 (ptr (q14.2.2+7) 0)) 11 v22) 42 v27) 43 v28) 44 v22) 45 q29.1) 41 q29.1) 46 v30) 47 v31) 12 (ptr (q19.2.2+7) 0)) 13 v31) 49 v34) 50 v35) 51 v22) 52 q36.1) 48 q36.1) 53 v37) 54 v38) 14 (ptr (q29.2.2+7) 0)) 15 v38) 55 v10) 56 v16) 57 v41) 58 v41
 (gsel v41 false
 ((Zr .bool .neq v31 v38).bind fun v44 =>
 some (put (put (put t43 59 v31) 60 v38) 61 v44,H40,q36.2.2+8))
 (some (put (put (put t43 59 (.tuple #[])) 60 (.tuple #[])) 61 (.tuple #[]),H40,q36.2.2+8))
 ).bind fun (q42:R3) =>
 (Zw (q42.1 58) (.bool true) (q42.1 61)).bind fun v45 =>
 csel v45
 (some (.bool false,q42.2.1,q42.2.2+1))
 (let t47:Tm:=put (put (put q42.1 62 v45) 63 (q42.1 6)) 64 (q42.1 6)
 (gsel (q42.1 6) true
 ((ld true 3 (t47 3) q42.2.1).bind fun v48 =>
 (ld true 8 (t47 5) q42.2.1).bind fun v49 =>
 (C 22 [v48,v49] q42.2.1 (q42.2.2+47)).bind fun q50 =>
 (un .not q50.1).bind fun v51 =>
 some ⟨put (put (put (put (put t47 65 v48) 66 v49) 67 q50.1) 68 v51) 69 v51,q50.2.1,q50.2.2,[⟨3,true,8,t47 5,v49⟩,⟨2,true,3,t47 3,v48⟩],[(4,q42.2.1)]⟩)
 (some ⟨put (put (put (put (put t47 65 (.tuple #[])) 66 (.tuple #[])) 67 (.tuple #[])) 68 (.tuple #[])) 69 (.tuple #[]),q42.2.1,q42.2.2+47,[],[]⟩)
 ).bind fun (q46:R5) =>
 let t53:Tm:=q46.t
 (gsel (q46.t 69) false
 ((Zo 5 (t53 5)).bind fun v54 =>
 (ld false 1 v54 q46.H).bind fun v55 =>
 askB 255 false 1 v54 v55 q46.hs <|
 (Zr .plain .neq v55 (.int .i64 0)).bind fun v56 =>
 some ⟨put (put (put t53 70 v54) 71 v55) 72 v56,q46.H,q46.n,(⟨8,false,1,v54,v55⟩ :: q46.rs),q46.hs⟩)
 (some ⟨put (put (put t53 70 (.tuple #[])) 71 (.tuple #[])) 72 (.tuple #[]),q46.H,q46.n,q46.rs,q46.hs⟩)
 ).bind fun (q52:R5) =>
 let t58:Tm:=q52.t
 (gsel (q52.t 64) true
 ((Zw (t58 69) (.bool true) (t58 72)).bind fun v59 =>
 some ⟨put (put t58 73 v59) 74 v59,q52.H,q52.n,q52.rs,q52.hs⟩)
 (some ⟨put (put t58 73 (.tuple #[])) 74 (.tuple #[]),q52.H,q52.n,q52.rs,q52.hs⟩)
 ).bind fun (q57:R5) =>
 let t61:Tm:=q57.t
 (gsel (q57.t 74) false
 ((Zo 1 (t61 5)).bind fun v62 =>
 (ld false 1 v62 q57.H).bind fun v63 =>
 askB 8191 false 1 v62 v63 q57.hs <|
 (Zo 2 (t61 3)).bind fun v64 =>
 (ld false 1 v64 q57.H).bind fun v65 =>
 askB 20479 false 1 v64 v65 q57.hs <|
 (ld true 3 (t61 3) q57.H).bind fun v66 =>
 askB 4095 true 3 (t61 3) v66 q57.hs <|
 (C 11 [v66,t61 4] q57.H (q57.n)).bind fun q67 =>
 ask (ld false 1 v64 q67.2.1=some v65) <|
 ask (ld false 1 v62 q67.2.1=some v63) <|
 asks 200703 q67.2.1 q57.rs <|
 (idxA 3 v65 q67.1).bind fun v68 =>
 (Zo 1 v68).bind fun v69 =>
 (ld false 1 v69 q67.2.1).bind fun v70 =>
 askB 2084863 false 1 v69 v70 q57.hs <|
 (Zr .plain .neq v63 v70).bind fun v71 =>
 some ⟨put (put (put (put (put (put (put (put (put (put (put t61 75 v62) 76 v63) 77 v64) 78 v65) 79 v66) 80 (t61 4)) 81 q67.1) 82 v68) 83 v69) 84 v70) 85 v71,q67.2.1,q67.2.2,(⟨21,false,1,v69,v70⟩ :: ⟨16,true,3,t61 3,v66⟩ :: ⟨15,false,1,v64,v65⟩ :: ⟨13,false,1,v62,v63⟩ :: q57.rs),((18,q57.H) :: q57.hs)⟩)
 (some ⟨put (put (put (put (put (put (put (put (put (put (put t61 75 (.tuple #[])) 76 (.tuple #[])) 77 (.tuple #[])) 78 (.tuple #[])) 79 (.tuple #[])) 80 (.tuple #[])) 81 (.tuple #[])) 82 (.tuple #[])) 83 (.tuple #[])) 84 (.tuple #[])) 85 (.tuple #[]),q57.H,q57.n,q57.rs,q57.hs⟩)
 ).bind fun (q60:R5) =>
 let t73:Tm:=q60.t
 (gsel (q60.t 64) true
 ((Zw (t73 74) (.bool true) (t73 85)).bind fun v74 =>
 some ⟨put (put t73 86 v74) 87 v74,q60.H,q60.n,q60.rs,q60.hs⟩)
 (some ⟨put (put t73 86 (.tuple #[])) 87 (.tuple #[]),q60.H,q60.n,q60.rs,q60.hs⟩)
 ).bind fun (q72:R5) =>
 let t76:Tm:=q72.t
 (gsel (q72.t 87) false
 ((Zo 0 (t76 5)).bind fun v77 =>
 (Zo 0 v77).bind fun v78 =>
 (ld false 1 v78 q72.H).bind fun v79 =>
 askB 134217727 false 1 v78 v79 q72.hs <|
 (Zo 2 (t76 5)).bind fun v80 =>
 (ld false 1 v80 q72.H).bind fun v81 =>
 askB 301989887 false 1 v80 v81 q72.hs <|
 (idxA 5 v79 v81).bind fun v82 =>
 (Zo 0 v82).bind fun v83 =>
 (ld false 1 v83 q72.H).bind fun v84 =>
 askB 4294967295 false 1 v83 v84 q72.hs <|
 (Zr .plain .neq v84 (.int .i64 1)).bind fun v85 =>
 some ⟨put (put (put (put (put (put (put (put (put t76 88 v77) 89 v78) 90 v79) 91 v80) 92 v81) 93 v82) 94 v83) 95 v84) 96 v85,q72.H,q72.n,(⟨32,false,1,v83,v84⟩ :: ⟨29,false,1,v80,v81⟩ :: ⟨27,false,1,v78,v79⟩ :: q72.rs),q72.hs⟩)
 (some ⟨put (put (put (put (put (put (put (put (put t76 88 (.tuple #[])) 89 (.tuple #[])) 90 (.tuple #[])) 91 (.tuple #[])) 92 (.tuple #[])) 93 (.tuple #[])) 94 (.tuple #[])) 95 (.tuple #[])) 96 (.tuple #[]),q72.H,q72.n,q72.rs,q72.hs⟩)
 ).bind fun (q75:R5) =>
 let t87:Tm:=q75.t
 (gsel (q75.t 64) true
 ((Zw (t87 87) (.bool true) (t87 96)).bind fun v88 =>
 some ⟨put (put t87 97 v88) 98 v88,q75.H,q75.n,q75.rs,q75.hs⟩)
 (some ⟨put (put t87 97 (.tuple #[])) 98 (.tuple #[]),q75.H,q75.n,q75.rs,q75.hs⟩)
 ).bind fun (q86:R5) =>
 let t90:Tm:=q86.t
 (gsel (q86.t 98) false
 ((Zo 0 (t90 5)).bind fun v91 =>
 (Zo 0 v91).bind fun v92 =>
 (ld false 1 v92 q86.H).bind fun v93 =>
 askB 274877906943 false 1 v92 v93 q86.hs <|
 (Zo 4 (t90 5)).bind fun v94 =>
 (ld false 1 v94 q86.H).bind fun v95 =>
 askB 618475290623 false 1 v94 v95 q86.hs <|
 (idxA 5 v93 v95).bind fun v96 =>
 (Zo 0 v96).bind fun v97 =>
 (ld false 1 v97 q86.H).bind fun v98 =>
 askB 8796093022207 false 1 v97 v98 q86.hs <|
 (Zr .plain .neq v98 (.int .i64 1)).bind fun v99 =>
 some ⟨put (put (put (put (put (put (put (put (put t90 99 v91) 100 v92) 101 v93) 102 v94) 103 v95) 104 v96) 105 v97) 106 v98) 107 v99,q86.H,q86.n,(⟨43,false,1,v97,v98⟩ :: ⟨40,false,1,v94,v95⟩ :: ⟨38,false,1,v92,v93⟩ :: q86.rs),q86.hs⟩)
 (some ⟨put (put (put (put (put (put (put (put (put t90 99 (.tuple #[])) 100 (.tuple #[])) 101 (.tuple #[])) 102 (.tuple #[])) 103 (.tuple #[])) 104 (.tuple #[])) 105 (.tuple #[])) 106 (.tuple #[])) 107 (.tuple #[]),q86.H,q86.n,q86.rs,q86.hs⟩)
 ).bind fun (q89:R5) =>
 let t101:Tm:=q89.t
 (gsel (q89.t 64) true
 ((Zw (t101 98) (.bool true) (t101 107)).bind fun v102 =>
 some ⟨put t101 108 v102,q89.H,q89.n,q89.rs,q89.hs⟩)
 (some ⟨put t101 108 (.tuple #[]),q89.H,q89.n,q89.rs,q89.hs⟩)
 ).bind fun (q100:R5) =>
 (Zw (q100.t 64) (q100.t 108) (.bool false)).bind fun v103 =>
 csel v103
 (some (.bool false,q100.H,q100.n+1))
 ((un .not (q100.t 13)).bind fun v104 =>
 let t106:Tm:=put (put (put (put q100.t 109 v103) 110 (q100.t 13)) 111 v104) 112 v104
 (gsel v104 true
 ((Zo 0 (t106 12)).bind fun v107 =>
 (Zo 0 v107).bind fun v108 =>
 (ld false 1 v108 q100.H).bind fun v109 =>
 (lenV false v109).bind fun v110 =>
 (Zr .plain .eql v110 (.int .i64 0)).bind fun v111 =>
 some ⟨put (put (put (put (put t106 113 v107) 114 v108) 115 v109) 116 v110) 117 v111,q100.H,q100.n+35,[⟨5,false,1,v108,v109⟩],[]⟩)
 (some ⟨put (put (put (put (put t106 113 (.tuple #[])) 114 (.tuple #[])) 115 (.tuple #[])) 116 (.tuple #[])) 117 (.tuple #[]),q100.H,q100.n+35,[],[]⟩)
 ).bind fun (q105:R5) =>
 (Zw (q105.t 112) (q105.t 117) (.bool false)).bind fun v112 =>
 let t114:Tm:=put (put q105.t 118 v112) 119 v112
 (gsel v112 false
 (some ⟨put (put t114 120 (t114 13)) 121 (t114 13),q105.H,q105.n,q105.rs,q105.hs⟩)
 (some ⟨put (put t114 120 (.tuple #[])) 121 (.tuple #[]),q105.H,q105.n,q105.rs,q105.hs⟩)
 ).bind fun (q113:R5) =>
 let t116:Tm:=q113.t
 (gsel (q113.t 121) true
 ((ld true 3 (t116 9) q113.H).bind fun v117 =>
 askB 4095 true 3 (t116 9) v117 q113.hs <|
 (ld true 8 (t116 12) q113.H).bind fun v118 =>
 askB 4095 true 8 (t116 12) v118 q113.hs <|
 (C 22 [v117,v118] q113.H (q113.n)).bind fun q119 =>
 asks 16383 q119.2.1 q113.rs <|
 some ⟨put (put (put t116 122 v117) 123 v118) 124 q119.1,q119.2.1,q119.2.2,(⟨13,true,8,t116 12,v118⟩ :: ⟨12,true,3,t116 9,v117⟩ :: q113.rs),((14,q113.H) :: q113.hs)⟩)
 (some ⟨put (put (put t116 122 (.tuple #[])) 123 (.tuple #[])) 124 (.tuple #[]),q113.H,q113.n,q113.rs,q113.hs⟩)
 ).bind fun (q115:R5) =>
 let t121:Tm:=q115.t
 (gsel (q115.t 119) false
 ((Zw (t121 121) (t121 124) (.bool false)).bind fun v122 =>
 some ⟨put (put t121 125 v122) 126 v122,q115.H,q115.n,q115.rs,q115.hs⟩)
 (some ⟨put (put t121 125 (.tuple #[])) 126 (.tuple #[]),q115.H,q115.n,q115.rs,q115.hs⟩)
 ).bind fun (q120:R5) =>
 let t124:Tm:=q120.t
 (gsel (q120.t 126) true
 ((Zo 5 (t124 12)).bind fun v125 =>
 (ld false 1 v125 q120.H).bind fun v126 =>
 askB 262143 false 1 v125 v126 q120.hs <|
 (Zr .plain .eql v126 (.int .i64 0)).bind fun v127 =>
 some ⟨put (put (put t124 127 v125) 128 v126) 129 v127,q120.H,q120.n,(⟨18,false,1,v125,v126⟩ :: q120.rs),q120.hs⟩)
 (some ⟨put (put (put t124 127 (.tuple #[])) 128 (.tuple #[])) 129 (.tuple #[]),q120.H,q120.n,q120.rs,q120.hs⟩)
 ).bind fun (q123:R5) =>
 let t129:Tm:=q123.t
 (gsel (q123.t 119) false
 ((Zw (t129 126) (t129 129) (.bool false)).bind fun v130 =>
 some ⟨put (put t129 130 v130) 131 v130,q123.H,q123.n,q123.rs,q123.hs⟩)
 (some ⟨put (put t129 130 (.tuple #[])) 131 (.tuple #[]),q123.H,q123.n,q123.rs,q123.hs⟩)
 ).bind fun (q128:R5) =>
 let t132:Tm:=q128.t
 (gsel (q128.t 131) true
 ((Zo 1 (t132 12)).bind fun v133 =>
 (ld false 1 v133 q128.H).bind fun v134 =>
 askB 8388607 false 1 v133 v134 q128.hs <|
 (Zo 0 (t132 10)).bind fun v135 =>
 (ld false 1 v135 q128.H).bind fun v136 =>
 askB 20971519 false 1 v135 v136 q128.hs <|
 (idxA 5 v136 (t132 11)).bind fun v137 =>
 (Zo 1 v137).bind fun v138 =>
 (ld false 1 v138 q128.H).bind fun v139 =>
 askB 524287999 false 1 v138 v139 q128.hs <|
 (Zr .plain .quo v139 (.int .i64 8)).bind fun v140 =>
 (Zr .plain .eql v134 v140).bind fun v141 =>
 some ⟨put (put (put (put (put (put (put (put (put (put t132 132 v133) 133 v134) 134 v135) 135 v136) 136 (t132 11)) 137 v137) 138 v138) 139 v139) 140 v140) 141 v141,q128.H,q128.n,(⟨29,false,1,v138,v139⟩ :: ⟨25,false,1,v135,v136⟩ :: ⟨23,false,1,v133,v134⟩ :: q128.rs),q128.hs⟩)
 (some ⟨put (put (put (put (put (put (put (put (put (put t132 132 (.tuple #[])) 133 (.tuple #[])) 134 (.tuple #[])) 135 (.tuple #[])) 136 (.tuple #[])) 137 (.tuple #[])) 138 (.tuple #[])) 139 (.tuple #[])) 140 (.tuple #[])) 141 (.tuple #[]),q128.H,q128.n,q128.rs,q128.hs⟩)
 ).bind fun (q131:R5) =>
 let t143:Tm:=q131.t
 (gsel (q131.t 119) false
 ((Zw (t143 131) (t143 141) (.bool false)).bind fun v144 =>
 some ⟨put t143 142 v144,q131.H,q131.n,q131.rs,q131.hs⟩)
 (some ⟨put t143 142 (.tuple #[]),q131.H,q131.n,q131.rs,q131.hs⟩)
 ).bind fun (q142:R5) =>
 (Zw (q142.t 119) (.bool true) (q142.t 142)).bind fun v145 =>
 some (v145,q142.H,q142.n))))
theorem s5 (C:Zp) (L:Zs→Zs) (t:Tm) (H:Hp) (n:Nat):bodyK Try.prog C L Try.f5 t H n=S5 C L t H n:=by kernel_rfl
theorem c5 (args:List Value) (H:Hp) (n:Nat):Call Try.prog 5 args H n=S5 (Call Try.prog) Yf (Yg args) H n:=(Zu Try.func5 args H n).trans (s5 ..)
noncomputable def S7 (C:Zp) (L:Zs→Zs) (t:Tm) (H:Hp) (n:Nat):Option (Value × Hp × Nat) :=
 (lenV false (t 0)).bind fun v1 =>
 (Zr .plain .gtr v1 (.int .i64 1048576)).bind fun v2 =>
 some (v2,H,n+5)
theorem s7 (C:Zp) (L:Zs→Zs) (t:Tm) (H:Hp) (n:Nat):bodyK Try.prog C L Try.f7 t H n=S7 C L t H n:=by kernel_rfl
theorem c7 (args:List Value) (H:Hp) (n:Nat):Call Try.prog 7 args H n=S7 (Call Try.prog) Yf (Yg args) H n:=(Zu Try.func7 args H n).trans (s7 ..)
noncomputable def S10L1 (C:Zp) (L:Zs→Zs):Zs:=fun t H n =>
 (lenV false (t 1)).bind fun v28 =>
 (Zr .plain .lss (t 9) v28).bind fun v29 =>
 csel v29
 ((idxA 1 (t 1) (t 9)).bind fun v30 =>
 (ld false 1 v30 H).bind fun v31 =>
 (C 51 [t 8,v31] H (n+10)).bind fun q32 =>
 (Ye (t 8)).bind fun v33 =>
 (Zo 3 v33).bind fun v34 =>
 (ld false 1 v34 q32.2.1).bind fun v35 =>
 (Zr .plain .eql v35 (.int .i64 3)).bind fun v36 =>
 csel v36
 ((bld [nilS,nilS,nilS] []).bind fun v37 =>
 (st true 3 (t 4) v37 q32.2.1).bind fun H38 =>
 some ⟨.ret,put (put (put (put (put (put (put (put (put (put (put (put (put (put (put (put (put (put t 33 (t 9)) 34 (t 1)) 35 v28) 36 v29) 39 (t 8)) 40 (t 1)) 41 (t 9)) 42 v30) 43 v31) 44 q32.1) 45 (t 8)) 46 v33) 47 v34) 48 v35) 49 v36) 50 v37) 5 (.int .i64 3)) 6 (.int .i64 0),H38,q32.2.2+9⟩)
 ((Ye (t 8)).bind fun v39 =>
 (Zo 3 v39).bind fun v40 =>
 (ld false 1 v40 q32.2.1).bind fun v41 =>
 (Zr .plain .neq v41 (.int .i64 0)).bind fun v42 =>
 csel v42
 ((bld [nilS,nilS,nilS] []).bind fun v43 =>
 (Ye (t 8)).bind fun v44 =>
 (Zo 3 v44).bind fun v45 =>
 (ld false 1 v45 q32.2.1).bind fun v46 =>
 (st true 3 (t 4) v43 q32.2.1).bind fun H47 =>
 ask (ld false 1 v45 H47=some v46) <|
 some ⟨.ret,put (put (put (put (put (put (put (put (put (put (put (put (put (put (put (put (put (put (put (put (put (put (put (put (put (put (put (put t 33 (t 9)) 34 (t 1)) 35 v28) 36 v29) 39 (t 8)) 40 (t 1)) 41 (t 9)) 42 v30) 43 v31) 44 q32.1) 45 (t 8)) 46 v33) 47 v34) 48 v35) 49 v36) 51 (t 8)) 52 v39) 53 v40) 54 v41) 55 v42) 56 v43) 57 (t 8)) 58 v44) 59 v45) 60 v46) 61 (t 9)) 5 v46) 6 (t 9),H47,q32.2.2+19⟩)
 ((Zr .plain .add (t 9) (.int .i64 1)).bind fun v48 =>
 some ⟨.normal,put (put (put (put (put (put (put (put (put (put (put (put (put (put (put (put (put (put (put (put (put (put (put t 33 (t 9)) 34 (t 1)) 35 v28) 36 v29) 39 (t 8)) 40 (t 1)) 41 (t 9)) 42 v30) 43 v31) 44 q32.1) 45 (t 8)) 46 v33) 47 v34) 48 v35) 49 v36) 51 (t 8)) 52 v39) 53 v40) 54 v41) 55 v42) 37 (t 9)) 38 v48) 9 v48,q32.2.1,q32.2.2+13⟩)))
 (some ⟨(.exit 2),put (put (put (put t 33 (t 9)) 34 (t 1)) 35 v28) 36 v29,H,n+4⟩)
noncomputable def S10L0 (C:Zp) (L:Zs→Zs):Zs:=fun t H n =>
 (lenV false (t 1)).bind fun v11 =>
 (Zr .plain .lss (t 7) v11).bind fun v12 =>
 csel v12
 ((ld true 1 (t 2) H).bind fun v13 =>
 (idxA 1 (t 1) (t 7)).bind fun v14 =>
 (ld false 1 v14 H).bind fun v15 =>
 (C 49 [v13,v15] H (n+11)).bind fun q16 =>
 (un .not q16.1).bind fun v17 =>
 csel v17
 ((bld [nilS,nilS,nilS] []).bind fun v18 =>
 (st true 3 (t 4) v18 q16.2.1).bind fun H19 =>
 some ⟨.ret,put (put (put (put (put (put (put (put (put (put (put (put (put (put t 15 (t 7)) 16 (t 1)) 17 v11) 18 v12) 21 v13) 22 (t 1)) 23 (t 7)) 24 v14) 25 v15) 26 q16.1) 27 v17) 28 v18) 5 (.int .i64 3)) 6 (.int .i64 0),H19,q16.2.2+4⟩)
 ((Zr .plain .add (t 7) (.int .i64 1)).bind fun v20 =>
 some ⟨.normal,put (put (put (put (put (put (put (put (put (put (put (put (put (put t 15 (t 7)) 16 (t 1)) 17 v11) 18 v12) 21 v13) 22 (t 1)) 23 (t 7)) 24 v14) 25 v15) 26 q16.1) 27 v17) 19 (t 7)) 20 v20) 7 v20,q16.2.1,q16.2.2+3⟩))
 (some ⟨(.exit 0),put (put (put (put t 15 (t 7)) 16 (t 1)) 17 v11) 18 v12,H,n+4⟩)
noncomputable def S10 (C:Zp) (L:Zs→Zs) (t:Tm) (H:Hp) (n:Nat):Option (Value × Hp × Nat) :=
 (vcells (t 0)).bind fun c2 =>
 let H1:=H.set (n) (some (.row c2 0 true))
 let H3:=H1.set (n+1) (some (.row [nilS,nilS,nilS] 0 true))
 (ld true 1 (ptr (n) 0) H3).bind fun v4 =>
 (C 48 [v4] H3 (n+7)).bind fun q5 =>
 (un .not q5.1).bind fun v6 =>
 csel v6
 ((bld [nilS,nilS,nilS] []).bind fun v7 =>
 (st true 3 (ptr (n+1) 0) v7 q5.2.1).bind fun H8 =>
 (ld true 3 (ptr (n+1) 0) H8).bind fun v9 =>
 iteK ([v9,.int .i64 3,.int .i64 0].all notTup) <|
 some (.tuple ⟨[v9,.int .i64 3,.int .i64 0]⟩,H8,q5.2.2+4))
 ((L (S10L0 C L) (put (put (put (put (put (put (put (put t 2 (ptr (n) 0)) 4 (ptr (n+1) 0)) 5 (.int .i64 0)) 6 (.int .i64 0)) 11 v4) 12 q5.1) 13 v6) 7 (.int .i64 0)) q5.2.1 (q5.2.2+1)).bind fun (o10:Out) =>
 let o21:=outOf 0 o10
 thenK o21
 ((ld true 1 (o21.t 2) o21.H).bind fun v22 =>
 (C 50 [v22] o21.H (o21.n+5)).bind fun q23 =>
 (bld [nilS,nilS,nilS,.int .i64 0] [(0,1,q23.1)]).bind fun v24 =>
 (vcells v24).bind fun c26 =>
 let H25:=q23.2.1.set (o21.n+3) (some (.row c26 0 true))
 (L (S10L1 C L) (put (put (put (put (put (put o21.t 29 v22) 30 q23.1) 31 v24) 32 (ptr (o21.n+3) 0)) 8 (ptr (o21.n+3) 0)) 9 (.int .i64 0)) H25 (q23.2.2+1)).bind fun (o27:Out) =>
 let o49:=outOf 2 o27
 thenK o49
 ((Ye (o49.t 8)).bind fun v50 =>
 (Zo 0 v50).bind fun v51 =>
 (ld true 1 v51 o49.H).bind fun v52 =>
 (Ye (o49.t 8)).bind fun v53 =>
 (Zo 1 v53).bind fun v54 =>
 (ld false 1 v54 o49.H).bind fun v55 =>
 (Ye (o49.t 8)).bind fun v56 =>
 (Zo 2 v56).bind fun v57 =>
 (ld false 1 v57 o49.H).bind fun v58 =>
 (bld [nilS,nilS,nilS] [(0,1,v52),(1,1,v55),(2,1,v58)]).bind fun v59 =>
 let H60:=o49.H.set (o49.n+13) (some (.row [nilS,nilS,nilS] 0 true))
 (st true 3 (ptr (o49.n+13) 0) v59 H60).bind fun H61 =>
 (ld true 3 (ptr (o49.n+13) 0) H61).bind fun v62 =>
 (C 14 [v62] H61 (o49.n+18)).bind fun q63 =>
 (un .not q63.1).bind fun v64 =>
 csel v64
 ((bld [nilS,nilS,nilS] []).bind fun v65 =>
 (st true 3 (o49.t 4) v65 q63.2.1).bind fun H66 =>
 (ld true 3 (o49.t 4) H66).bind fun v67 =>
 iteK ([v67,.int .i64 3,.int .i64 0].all notTup) <|
 some (.tuple ⟨[v67,.int .i64 3,.int .i64 0]⟩,H66,q63.2.2+4))
 ((ld true 3 (ptr (o49.n+13) 0) q63.2.1).bind fun v68 =>
 (lenV false (o49.t 1)).bind fun v69 =>
 (st true 3 (o49.t 4) v68 q63.2.1).bind fun H70 =>
 (ld true 3 (o49.t 4) H70).bind fun v71 =>
 iteK ([v71,.int .i64 0,v69].all notTup) <|
 some (.tuple ⟨[v71,.int .i64 0,v69]⟩,H70,q63.2.2+6)))
 (finE o49.e
 ((ld true 3 (o49.t 4) o49.H).bind fun v72 =>
 iteK ([v72,o49.t 5,o49.t 6].all notTup) <|
 some (.tuple ⟨[v72,o49.t 5,o49.t 6]⟩,o49.H,o49.n))))
 (finE o21.e
 ((ld true 3 (o21.t 4) o21.H).bind fun v73 =>
 iteK ([v73,o21.t 5,o21.t 6].all notTup) <|
 some (.tuple ⟨[v73,o21.t 5,o21.t 6]⟩,o21.H,o21.n))))
theorem s10 (C:Zp) (L:Zs→Zs) (t:Tm) (H:Hp) (n:Nat):bodyK Try.prog C L Try.f10 t H n=S10 C L t H n:=by kernel_rfl
theorem c10 (args:List Value) (H:Hp) (n:Nat):Call Try.prog 10 args H n=S10 (Call Try.prog) Yf (Yg args) H n:=(Zu Try.func10 args H n).trans (s10 ..)
noncomputable def S11 (C:Zp) (L:Zs→Zs) (t:Tm) (H:Hp) (n:Nat):Option (Value × Hp × Nat) :=
 (vcells (t 0)).bind fun c2 =>
 let H1:=H.set (n) (some (.row c2 0 true))
 (vcells (t 1)).bind fun c4 =>
 let H3:=H1.set (n+1) (some (.row c4 0 true))
 (Zo 2 (ptr (n) 0)).bind fun v5 =>
 (ld false 1 v5 H3).bind fun v6 =>
 iteK ([ptr (n+1) 0].all ptrV) <|
 (C 52 [v6,.func (.func 53) #[] ⟨[ptr (n+1) 0]⟩] H3 (n+8)).bind fun q7 =>
 some (q7.1,q7.2.1,q7.2.2)
theorem s11 (C:Zp) (L:Zs→Zs) (t:Tm) (H:Hp) (n:Nat):bodyK Try.prog C L Try.f11 t H n=S11 C L t H n:=by kernel_rfl
theorem c11 (args:List Value) (H:Hp) (n:Nat):Call Try.prog 11 args H n=S11 (Call Try.prog) Yf (Yg args) H n:=(Zu Try.func11 args H n).trans (s11 ..)
noncomputable def S12L1 (C:Zp) (L:Zs→Zs):Zs:=fun t H n =>
 (Zr .plain .lss (t 36) (t 35)).bind fun v35 =>
 csel v35
 ((idxA 3 (t 34) (t 36)).bind fun v36 =>
 (ld true 3 v36 H).bind fun v37 =>
 let H38:=H.set (n+4) (some (.row [.string ⟨#[]⟩,.int .i64 0,.int .i64 0] 0 true))
 (st true 3 (ptr (n+4) 0) v37 H38).bind fun H39 =>
 (Zo 0 (ptr (n+4) 0)).bind fun v40 =>
 (ld false 1 v40 H39).bind fun v41 =>
 (C 55 [v41] H39 (n+35)).bind fun q42 =>
 (un .not q42.1).bind fun v43 =>
 let t45:Tm:=put (put (put (put (put (put (put (put (put (put (put t 37 v35) 38 (t 36)) 39 v36) 40 v37) 5 (ptr (n+4) 0)) 4 (t 36)) 41 v40) 42 v41) 43 q42.1) 44 v43) 45 v43
 (gsel v43 false
 ((ld true 3 (t45 1) q42.2.1).bind fun v46 =>
 (Zo 0 (ptr (n+4) 0)).bind fun v47 =>
 (ld false 1 v47 q42.2.1).bind fun v48 =>
 (C 11 [v46,v48] q42.2.1 (q42.2.2)).bind fun q49 =>
 (Zr .plain .neq q49.1 (t 36)).bind fun v50 =>
 some (put (put (put (put (put (put t45 46 v46) 47 v47) 48 v48) 49 q49.1) 50 (t 36)) 51 v50,q49.2.1,q49.2.2))
 (some (put (put (put (put (put (put t45 46 (.tuple #[])) 47 (.tuple #[])) 48 (.tuple #[])) 49 (.tuple #[])) 50 (.tuple #[])) 51 (.tuple #[]),q42.2.1,q42.2.2))
 ).bind fun (q44:R3) =>
 (Zw (q44.1 45) (.bool true) (q44.1 51)).bind fun v51 =>
 let t53:Tm:=put (put q44.1 52 v51) 53 v51
 (gsel v51 false
 ((Zo 1 (t53 5)).bind fun v54 =>
 (ld false 1 v54 q44.2.1).bind fun v55 =>
 (Zo 1 (t53 1)).bind fun v56 =>
 (ld false 1 v56 q44.2.1).bind fun v57 =>
 (lenV false v57).bind fun v58 =>
 (Zr .plain .sub v58 (.int .i64 1)).bind fun v59 =>
 (C 56 [v55,.int .i64 0,v59] q44.2.1 (q44.2.2)).bind fun q60 =>
 (un .not q60.1).bind fun v61 =>
 some (put (put (put (put (put (put (put (put t53 54 v54) 55 v55) 56 v56) 57 v57) 58 v58) 59 v59) 60 q60.1) 61 v61,q60.2.1,q60.2.2))
 (some (put (put (put (put (put (put (put (put t53 54 (.tuple #[])) 55 (.tuple #[])) 56 (.tuple #[])) 57 (.tuple #[])) 58 (.tuple #[])) 59 (.tuple #[])) 60 (.tuple #[])) 61 (.tuple #[]),q44.2.1,q44.2.2))
 ).bind fun (q52:R3) =>
 (Zw (q52.1 53) (.bool true) (q52.1 61)).bind fun v62 =>
 let t64:Tm:=put (put q52.1 62 v62) 63 v62
 (gsel v62 false
 ((Zo 2 (t64 5)).bind fun v65 =>
 (ld false 1 v65 q52.2.1).bind fun v66 =>
 (C 56 [v66,.int .i64 0,.int .i64 4] q52.2.1 (q52.2.2)).bind fun q67 =>
 (un .not q67.1).bind fun v68 =>
 some (put (put (put (put t64 64 v65) 65 v66) 66 q67.1) 67 v68,q67.2.1,q67.2.2))
 (some (put (put (put (put t64 64 (.tuple #[])) 65 (.tuple #[])) 66 (.tuple #[])) 67 (.tuple #[]),q52.2.1,q52.2.2))
 ).bind fun (q63:R3) =>
 (Zw (q63.1 63) (.bool true) (q63.1 67)).bind fun v69 =>
 csel v69
 (some ⟨.ret,put (put q63.1 68 v69) 2 (.bool false),q63.2.1,q63.2.2+1⟩)
 ((Zr .plain .add (q63.1 36) (.int .i64 1)).bind fun v70 =>
 some ⟨.normal,put (put (put q63.1 68 v69) 69 v70) 36 v70,q63.2.1,q63.2.2+2⟩))
 (some ⟨(.exit 2),put t 37 v35,H,n+1⟩)
noncomputable def S12L0 (C:Zp) (L:Zs→Zs):Zs:=fun t H n =>
 (Zr .plain .lss (t 25) (t 24)).bind fun v25 =>
 csel v25
 ((ld true 3 (t 1) H).bind fun v26 =>
 (C 54 [v26,t 25] H (n+7)).bind fun q27 =>
 (un .not q27.1).bind fun v28 =>
 csel v28
 (some ⟨.ret,put (put (put (put (put (put (put (put t 26 v25) 27 (t 25)) 3 (t 25)) 28 v26) 29 (t 25)) 30 q27.1) 31 v28) 2 (.bool false),q27.2.1,q27.2.2+1⟩)
 ((Zr .plain .add (t 25) (.int .i64 1)).bind fun v29 =>
 some ⟨.normal,put (put (put (put (put (put (put (put (put t 26 v25) 27 (t 25)) 3 (t 25)) 28 v26) 29 (t 25)) 30 q27.1) 31 v28) 32 v29) 25 v29,q27.2.1,q27.2.2+2⟩))
 (some ⟨(.exit 0),put t 26 v25,H,n+1⟩)
noncomputable def S12 (C:Zp) (L:Zs→Zs) (t:Tm) (H:Hp) (n:Nat):Option (Value × Hp × Nat) :=
 (vcells (t 0)).bind fun c2 =>
 let H1:=H.set (n) (some (.row c2 0 true))
 (Zo 0 (ptr (n) 0)).bind fun v3 =>
 (ld true 1 v3 H1).bind fun v4 =>
 (C 42 [v4] H1 (n+18)).bind fun q5 =>
 (un .not q5.1).bind fun v6 =>
 let t8:Tm:=put (put (put (put (put (put (put t 1 (ptr (n) 0)) 2 (.bool false)) 6 v3) 7 v4) 8 q5.1) 9 v6) 10 v6
 (gsel v6 false
 ((Zo 1 (ptr (n) 0)).bind fun v9 =>
 (ld false 1 v9 q5.2.1).bind fun v10 =>
 (lenV false v10).bind fun v11 =>
 (Zr .plain .gtr v11 (.int .i64 400)).bind fun v12 =>
 some (put (put (put (put t8 11 v9) 12 v10) 13 v11) 14 v12,q5.2.1,q5.2.2))
 (some (put (put (put (put t8 11 (.tuple #[])) 12 (.tuple #[])) 13 (.tuple #[])) 14 (.tuple #[]),q5.2.1,q5.2.2))
 ).bind fun (q7:R3) =>
 (Zw (q7.1 10) (.bool true) (q7.1 14)).bind fun v13 =>
 let t15:Tm:=put (put q7.1 15 v13) 16 v13
 (gsel v13 false
 ((Zo 2 (t15 1)).bind fun v16 =>
 (ld false 1 v16 q7.2.1).bind fun v17 =>
 (lenV false v17).bind fun v18 =>
 (Zr .plain .gtr v18 (.int .i64 20)).bind fun v19 =>
 some (put (put (put (put t15 17 v16) 18 v17) 19 v18) 20 v19,q7.2.1,q7.2.2))
 (some (put (put (put (put t15 17 (.tuple #[])) 18 (.tuple #[])) 19 (.tuple #[])) 20 (.tuple #[]),q7.2.1,q7.2.2))
 ).bind fun (q14:R3) =>
 (Zw (q14.1 16) (.bool true) (q14.1 20)).bind fun v20 =>
 csel v20
 (some (.bool false,q14.2.1,q14.2.2+1))
 ((Zo 1 (q14.1 1)).bind fun v21 =>
 (ld false 1 v21 q14.2.1).bind fun v22 =>
 (lenV false v22).bind fun v23 =>
 (L (S12L0 C L) (put (put (put (put (put q14.1 21 v20) 22 v21) 23 v22) 24 v23) 25 (.int .i64 0)) q14.2.1 (q14.2.2+4)).bind fun (o24:Out) =>
 let o30:=outOf 0 o24
 thenK o30
 ((Zo 2 (o30.t 1)).bind fun v31 =>
 (ld false 1 v31 o30.H).bind fun v32 =>
 (lenV false v32).bind fun v33 =>
 (L (S12L1 C L) (put (put (put (put o30.t 33 v31) 34 v32) 35 v33) 36 (.int .i64 0)) o30.H (o30.n+4)).bind fun (o34:Out) =>
 let o71:=outOf 2 o34
 thenK o71
 (some (.bool true,o71.H,o71.n+1))
 (finE o71.e
 (some (o71.t 2,o71.H,o71.n))))
 (finE o30.e
 (some (o30.t 2,o30.H,o30.n))))
theorem s12 (C:Zp) (L:Zs→Zs) (t:Tm) (H:Hp) (n:Nat):bodyK Try.prog C L Try.f12 t H n=S12 C L t H n:=by kernel_rfl
theorem c12 (args:List Value) (H:Hp) (n:Nat):Call Try.prog 12 args H n=S12 (Call Try.prog) Yf (Yg args) H n:=(Zu Try.func12 args H n).trans (s12 ..)
noncomputable def S14L1 (C:Zp) (L:Zs→Zs):Zs:=fun t H n =>
 (Zo 2 (t 1)).bind fun v32 =>
 (ld false 1 v32 H).bind fun v33 =>
 (lenV false v33).bind fun v34 =>
 (Zr .plain .lss (t 4) v34).bind fun v35 =>
 csel v35
 ((Zo 2 (t 1)).bind fun v36 =>
 (ld false 1 v36 H).bind fun v37 =>
 (idxA 3 v37 (t 4)).bind fun v38 =>
 (ld true 3 v38 H).bind fun v39 =>
 let H40:=H.set (n+10) (some (.row [.string ⟨#[]⟩,.int .i64 0,.int .i64 0] 0 true))
 (st true 3 (ptr (n+10) 0) v39 H40).bind fun H41 =>
 (Zo 0 (ptr (n+10) 0)).bind fun v42 =>
 (ld false 1 v42 H41).bind fun v43 =>
 (C 60 [v43] H41 (n+40)).bind fun q44 =>
 (un .not q44.1).bind fun v45 =>
 let t47:Tm:=put (put (put (put (put (put (put (put (put (put (put (put (put (put (put (put t 33 (t 4)) 34 v32) 35 v33) 36 v34) 37 v35) 40 v36) 41 v37) 42 (t 4)) 43 v38) 44 v39) 5 (ptr (n+10) 0)) 45 v42) 46 v43) 47 q44.1) 48 v45) 49 v45
 (gsel v45 false
 ((ld true 3 (t47 1) q44.2.1).bind fun v48 =>
 (Zo 0 (ptr (n+10) 0)).bind fun v49 =>
 (ld false 1 v49 q44.2.1).bind fun v50 =>
 (C 15 [v48,v50] q44.2.1 (q44.2.2)).bind fun q51 =>
 (Zr .plain .neq q51.1 (t47 4)).bind fun v52 =>
 some (put (put (put (put (put (put t47 50 v48) 51 v49) 52 v50) 53 q51.1) 54 (t47 4)) 55 v52,q51.2.1,q51.2.2))
 (some (put (put (put (put (put (put t47 50 (.tuple #[])) 51 (.tuple #[])) 52 (.tuple #[])) 53 (.tuple #[])) 54 (.tuple #[])) 55 (.tuple #[]),q44.2.1,q44.2.2))
 ).bind fun (q46:R3) =>
 (Zw (q46.1 49) (.bool true) (q46.1 55)).bind fun v53 =>
 let t55:Tm:=put (put q46.1 56 v53) 57 v53
 (gsel v53 false
 ((Zo 1 (t55 5)).bind fun v56 =>
 (ld false 1 v56 q46.2.1).bind fun v57 =>
 (Zo 1 (t55 1)).bind fun v58 =>
 (ld false 1 v58 q46.2.1).bind fun v59 =>
 (lenV false v59).bind fun v60 =>
 (Zr .plain .sub v60 (.int .i64 1)).bind fun v61 =>
 (C 61 [v57,.int .i64 0,v61] q46.2.1 (q46.2.2)).bind fun q62 =>
 (un .not q62.1).bind fun v63 =>
 some (put (put (put (put (put (put (put (put t55 58 v56) 59 v57) 60 v58) 61 v59) 62 v60) 63 v61) 64 q62.1) 65 v63,q62.2.1,q62.2.2))
 (some (put (put (put (put (put (put (put (put t55 58 (.tuple #[])) 59 (.tuple #[])) 60 (.tuple #[])) 61 (.tuple #[])) 62 (.tuple #[])) 63 (.tuple #[])) 64 (.tuple #[])) 65 (.tuple #[]),q46.2.1,q46.2.2))
 ).bind fun (q54:R3) =>
 (Zw (q54.1 57) (.bool true) (q54.1 65)).bind fun v64 =>
 let t66:Tm:=put (put q54.1 66 v64) 67 v64
 (gsel v64 false
 ((Zo 2 (t66 5)).bind fun v67 =>
 (ld false 1 v67 q54.2.1).bind fun v68 =>
 (C 61 [v68,.int .i64 0,.int .i64 4] q54.2.1 (q54.2.2)).bind fun q69 =>
 (un .not q69.1).bind fun v70 =>
 some (put (put (put (put t66 68 v67) 69 v68) 70 q69.1) 71 v70,q69.2.1,q69.2.2))
 (some (put (put (put (put t66 68 (.tuple #[])) 69 (.tuple #[])) 70 (.tuple #[])) 71 (.tuple #[]),q54.2.1,q54.2.2))
 ).bind fun (q65:R3) =>
 (Zw (q65.1 67) (.bool true) (q65.1 71)).bind fun v71 =>
 csel v71
 (some ⟨.ret,put (put q65.1 72 v71) 2 (.bool false),q65.2.1,q65.2.2+1⟩)
 ((Zr .plain .add (q65.1 4) (.int .i64 1)).bind fun v72 =>
 some ⟨.normal,put (put (put (put q65.1 72 v71) 38 (q65.1 4)) 39 v72) 4 v72,q65.2.1,q65.2.2+3⟩))
 (some ⟨(.exit 2),put (put (put (put (put t 33 (t 4)) 34 v32) 35 v33) 36 v34) 37 v35,H,n+5⟩)
noncomputable def S14L0 (C:Zp) (L:Zs→Zs):Zs:=fun t H n =>
 (Zo 1 (t 1)).bind fun v22 =>
 (ld false 1 v22 H).bind fun v23 =>
 (lenV false v23).bind fun v24 =>
 (Zr .plain .lss (t 3) v24).bind fun v25 =>
 csel v25
 ((ld true 3 (t 1) H).bind fun v26 =>
 (C 59 [v26,t 3] H (n+9)).bind fun q27 =>
 (un .not q27.1).bind fun v28 =>
 csel v28
 (some ⟨.ret,put (put (put (put (put (put (put (put (put (put t 22 (t 3)) 23 v22) 24 v23) 25 v24) 26 v25) 29 v26) 30 (t 3)) 31 q27.1) 32 v28) 2 (.bool false),q27.2.1,q27.2.2+1⟩)
 ((Zr .plain .add (t 3) (.int .i64 1)).bind fun v29 =>
 some ⟨.normal,put (put (put (put (put (put (put (put (put (put (put (put t 22 (t 3)) 23 v22) 24 v23) 25 v24) 26 v25) 29 v26) 30 (t 3)) 31 q27.1) 32 v28) 27 (t 3)) 28 v29) 3 v29,q27.2.1,q27.2.2+3⟩))
 (some ⟨(.exit 0),put (put (put (put (put t 22 (t 3)) 23 v22) 24 v23) 25 v24) 26 v25,H,n+5⟩)
noncomputable def S14 (C:Zp) (L:Zs→Zs) (t:Tm) (H:Hp) (n:Nat):Option (Value × Hp × Nat) :=
 (vcells (t 0)).bind fun c2 =>
 let H1:=H.set (n) (some (.row c2 0 true))
 (Zo 0 (ptr (n) 0)).bind fun v3 =>
 (ld true 1 v3 H1).bind fun v4 =>
 (C 48 [v4] H1 (n+18)).bind fun q5 =>
 (un .not q5.1).bind fun v6 =>
 let t8:Tm:=put (put (put (put (put (put (put t 1 (ptr (n) 0)) 2 (.bool false)) 6 v3) 7 v4) 8 q5.1) 9 v6) 10 v6
 (gsel v6 false
 ((Zo 1 (ptr (n) 0)).bind fun v9 =>
 (ld false 1 v9 q5.2.1).bind fun v10 =>
 (lenV false v10).bind fun v11 =>
 (Zr .plain .gtr v11 (.int .i64 400)).bind fun v12 =>
 some (put (put (put (put t8 11 v9) 12 v10) 13 v11) 14 v12,q5.2.1,q5.2.2))
 (some (put (put (put (put t8 11 (.tuple #[])) 12 (.tuple #[])) 13 (.tuple #[])) 14 (.tuple #[]),q5.2.1,q5.2.2))
 ).bind fun (q7:R3) =>
 (Zw (q7.1 10) (.bool true) (q7.1 14)).bind fun v13 =>
 let t15:Tm:=put (put q7.1 15 v13) 16 v13
 (gsel v13 false
 ((Zo 2 (t15 1)).bind fun v16 =>
 (ld false 1 v16 q7.2.1).bind fun v17 =>
 (lenV false v17).bind fun v18 =>
 (Zr .plain .gtr v18 (.int .i64 20)).bind fun v19 =>
 some (put (put (put (put t15 17 v16) 18 v17) 19 v18) 20 v19,q7.2.1,q7.2.2))
 (some (put (put (put (put t15 17 (.tuple #[])) 18 (.tuple #[])) 19 (.tuple #[])) 20 (.tuple #[]),q7.2.1,q7.2.2))
 ).bind fun (q14:R3) =>
 (Zw (q14.1 16) (.bool true) (q14.1 20)).bind fun v20 =>
 csel v20
 (some (.bool false,q14.2.1,q14.2.2+1))
 ((L (S14L0 C L) (put (put q14.1 21 v20) 3 (.int .i64 0)) q14.2.1 (q14.2.2+1)).bind fun (o21:Out) =>
 let o30:=outOf 0 o21
 thenK o30
 ((L (S14L1 C L) (put o30.t 4 (.int .i64 0)) o30.H (o30.n+1)).bind fun (o31:Out) =>
 let o73:=outOf 2 o31
 thenK o73
 (some (.bool true,o73.H,o73.n+1))
 (finE o73.e
 (some (o73.t 2,o73.H,o73.n))))
 (finE o30.e
 (some (o30.t 2,o30.H,o30.n))))
theorem s14 (C:Zp) (L:Zs→Zs) (t:Tm) (H:Hp) (n:Nat):bodyK Try.prog C L Try.f14 t H n=S14 C L t H n:=by kernel_rfl
theorem c14 (args:List Value) (H:Hp) (n:Nat):Call Try.prog 14 args H n=S14 (Call Try.prog) Yf (Yg args) H n:=(Zu Try.func14 args H n).trans (s14 ..)
noncomputable def S15L0 (C:Zp) (L:Zs→Zs):Zs:=fun t H n =>
 (Zo 2 (t 2)).bind fun v4 =>
 (ld false 1 v4 H).bind fun v5 =>
 (lenV false v5).bind fun v6 =>
 (Zr .plain .lss (t 5) v6).bind fun v7 =>
 csel v7
 ((Zo 2 (t 2)).bind fun v8 =>
 (ld false 1 v8 H).bind fun v9 =>
 (idxA 3 v9 (t 5)).bind fun v10 =>
 (Zo 0 v10).bind fun v11 =>
 (ld false 1 v11 H).bind fun v12 =>
 (Zr .plain .eql v12 (t 1)).bind fun v13 =>
 csel v13
 (some ⟨.ret,put (put (put (put (put (put (put (put (put (put (put (put (put (put (put t 6 (t 5)) 7 v4) 8 v5) 9 v6) 10 v7) 13 v8) 14 v9) 15 (t 5)) 16 v10) 17 v11) 18 v12) 19 (t 1)) 20 v13) 21 (t 5)) 4 (t 5),H,n+15⟩)
 ((Zr .plain .add (t 5) (.int .i64 1)).bind fun v14 =>
 some ⟨.normal,put (put (put (put (put (put (put (put (put (put (put (put (put (put (put (put t 6 (t 5)) 7 v4) 8 v5) 9 v6) 10 v7) 13 v8) 14 v9) 15 (t 5)) 16 v10) 17 v11) 18 v12) 19 (t 1)) 20 v13) 11 (t 5)) 12 v14) 5 v14,H,n+16⟩))
 (some ⟨(.exit 0),put (put (put (put (put t 6 (t 5)) 7 v4) 8 v5) 9 v6) 10 v7,H,n+5⟩)
noncomputable def S15 (C:Zp) (L:Zs→Zs) (t:Tm) (H:Hp) (n:Nat):Option (Value × Hp × Nat) :=
 (vcells (t 0)).bind fun c2 =>
 let H1:=H.set (n) (some (.row c2 0 true))
 (L (S15L0 C L) (put (put (put t 2 (ptr (n) 0)) 4 (.int .i64 0)) 5 (.int .i64 0)) H1 (n+3)).bind fun (o3:Out) =>
 let o15:=outOf 0 o3
 thenK o15
 (some (.int .i64 (-1),o15.H,o15.n+1))
 (finE o15.e
 (some (o15.t 4,o15.H,o15.n)))
theorem s15 (C:Zp) (L:Zs→Zs) (t:Tm) (H:Hp) (n:Nat):bodyK Try.prog C L Try.f15 t H n=S15 C L t H n:=by kernel_rfl
theorem c15 (args:List Value) (H:Hp) (n:Nat):Call Try.prog 15 args H n=S15 (Call Try.prog) Yf (Yg args) H n:=(Zu Try.func15 args H n).trans (s15 ..)
noncomputable def S16 (C:Zp) (L:Zs→Zs) (t:Tm) (H:Hp) (n:Nat):Option (Value × Hp × Nat) :=
 let H1:=H.set (n) (some (.row [nilS,nilS,nilS] 0 true))
 (C 33 [t 0] H1 (n+5)).bind fun q2 =>
 (C 57 [q2.1] q2.2.1 (q2.2.2+4)).bind fun q3 =>
 let H4:=q3.2.1.set (q2.2.2+2) (some (.row [nilS,nilS,nilS] 0 true))
 (st true 3 (ptr (q2.2.2+2) 0) q3.1 H4).bind fun H5 =>
 (ld true 3 (ptr (q2.2.2+2) 0) H5).bind fun v6 =>
 (bsl (q3.2.2+2) 1 5 [.string ⟨#[]⟩] [(0,1,.string ⟨#[109,97,105,110]⟩),(1,1,.string ⟨#[109,97,105,110]⟩),(2,1,.string ⟨#[102]⟩),(3,1,.string ⟨#[117,112]⟩),(4,1,.string ⟨#[122,122]⟩)] H5).bind fun p7 =>
 (C 58 [q2.1,p7.1] p7.2 (q3.2.2+6)).bind fun q8 =>
 ask (ld true 3 (ptr (q2.2.2+2) 0) q8.2.1=some v6) <|
 (st true 3 (ptr (n) 0) v6 q8.2.1).bind fun H9 =>
 (ld true 3 (ptr (n) 0) H9).bind fun v10 =>
 iteK ([v10,q8.1].all notTup) <|
 some (.tuple ⟨[v10,q8.1]⟩,H9,q8.2.2)
theorem s16 (C:Zp) (L:Zs→Zs) (t:Tm) (H:Hp) (n:Nat):bodyK Try.prog C L Try.f16 t H n=S16 C L t H n:=by kernel_rfl
theorem c16 (args:List Value) (H:Hp) (n:Nat):Call Try.prog 16 args H n=S16 (Call Try.prog) Yf (Yg args) H n:=(Zu Try.func16 args H n).trans (s16 ..)
noncomputable def S17 (C:Zp) (L:Zs→Zs) (t:Tm) (H:Hp) (n:Nat):Option (Value × Hp × Nat) :=
 (vcells (t 0)).bind fun c2 =>
 let H1:=H.set (n) (some (.row c2 0 true))
 let H3:=H1.set (n+1) (some (.row [nilS,.int .i64 0,.int .i64 0,.int .i64 0,.int .i64 0,.int .i64 0,.int .i64 0,.int .i64 0] 0 true))
 (ld true 3 (ptr (n) 0) H3).bind fun v4 =>
 (C 11 [v4,t 1] H3 (n+7)).bind fun q5 =>
 (ld true 3 (ptr (n) 0) q5.2.1).bind fun v6 =>
 (C 12 [v6] q5.2.1 (q5.2.2+16)).bind fun q7 =>
 (un .not q7.1).bind fun v8 =>
 let t10:Tm:=put (put (put (put (put (put (put (put (put (put (put t 2 (ptr (n) 0)) 4 (ptr (n+1) 0)) 5 (.bool false)) 7 v4) 8 (t 1)) 9 q5.1) 6 q5.1) 10 v6) 11 q7.1) 12 v8) 13 v8
 (gsel v8 false
 ((Zr .plain .lss q5.1 (.int .i64 0)).bind fun v11 =>
 some (put (put t10 14 q5.1) 15 v11,q7.2.1,q7.2.2))
 (some (put (put t10 14 (.tuple #[])) 15 (.tuple #[]),q7.2.1,q7.2.2))
 ).bind fun (q9:R3) =>
 (Zw (q9.1 13) (.bool true) (q9.1 15)).bind fun v12 =>
 let t14:Tm:=put (put q9.1 16 v12) 17 v12
 (gsel v12 false
 ((Zo 2 (t14 2)).bind fun v15 =>
 (ld false 1 v15 q9.2.1).bind fun v16 =>
 (idxA 3 v16 (t14 6)).bind fun v17 =>
 (Zo 2 v17).bind fun v18 =>
 (ld false 1 v18 q9.2.1).bind fun v19 =>
 (Zr .plain .neq v19 (.int .i64 0)).bind fun v20 =>
 some (put (put (put (put (put (put (put t14 18 v15) 19 v16) 20 (t14 6)) 21 v17) 22 v18) 23 v19) 24 v20,q9.2.1,q9.2.2))
 (some (put (put (put (put (put (put (put t14 18 (.tuple #[])) 19 (.tuple #[])) 20 (.tuple #[])) 21 (.tuple #[])) 22 (.tuple #[])) 23 (.tuple #[])) 24 (.tuple #[]),q9.2.1,q9.2.2))
 ).bind fun (q13:R3) =>
 (Zw (q13.1 17) (.bool true) (q13.1 24)).bind fun v21 =>
 csel v21
 ((bld [nilS,.int .i64 0,.int .i64 0,.int .i64 0,.int .i64 0,.int .i64 0,.int .i64 0,.int .i64 0] []).bind fun v22 =>
 (st true 8 (q13.1 4) v22 q13.2.1).bind fun H23 =>
 (ld true 8 (q13.1 4) H23).bind fun v24 =>
 iteK ([v24,.bool false].all notTup) <|
 some (.tuple ⟨[v24,.bool false]⟩,H23,q13.2.2+3))
 ((bld [.int .i64 0,.int .i64 0,.string ⟨#[]⟩,.int .i64 0,.int .i64 0] [(0,1,.int .i64 1)]).bind fun v25 =>
 (bld [.int .i64 0,.int .i64 0,.string ⟨#[]⟩,.int .i64 0,.int .i64 0] [(0,1,.int .i64 5)]).bind fun v26 =>
 (bsl (q13.2.2+2) 5 2 [.int .i64 0,.int .i64 0,.string ⟨#[]⟩,.int .i64 0,.int .i64 0] [(0,5,v25),(5,5,v26)] q13.2.1).bind fun p27 =>
 (bld [nilS] [(0,1,p27.1)]).bind fun v28 =>
 (Zo 2 (q13.1 2)).bind fun v29 =>
 (ld false 1 v29 p27.2).bind fun v30 =>
 (idxA 3 v30 (q13.1 6)).bind fun v31 =>
 (Zo 1 v31).bind fun v32 =>
 (ld false 1 v32 p27.2).bind fun v33 =>
 (bld [nilS,.int .i64 0,.int .i64 0,.int .i64 0,.int .i64 0,.int .i64 0,.int .i64 0,.int .i64 0] [(0,1,v28),(1,1,v33),(3,1,.int .i64 1)]).bind fun v34 =>
 (st true 8 (q13.1 4) v34 p27.2).bind fun H35 =>
 (ld true 8 (q13.1 4) H35).bind fun v36 =>
 iteK ([v36,.bool true].all notTup) <|
 some (.tuple ⟨[v36,.bool true]⟩,H35,q13.2.2+13))
theorem s17 (C:Zp) (L:Zs→Zs) (t:Tm) (H:Hp) (n:Nat):bodyK Try.prog C L Try.f17 t H n=S17 C L t H n:=by kernel_rfl
theorem c17 (args:List Value) (H:Hp) (n:Nat):Call Try.prog 17 args H n=S17 (Call Try.prog) Yf (Yg args) H n:=(Zu Try.func17 args H n).trans (s17 ..)
noncomputable def S18 (C:Zp) (L:Zs→Zs) (t:Tm) (H:Hp) (n:Nat):Option (Value × Hp × Nat) :=
 (vcells (t 0)).bind fun c2 =>
 let H1:=H.set (n) (some (.row c2 0 true))
 let H3:=H1.set (n+1) (some (.row [nilS,.int .i64 0,.int .i64 0,.int .i64 0,.int .i64 0,.int .i64 0,.int .i64 0,.int .i64 0] 0 true))
 (ld true 3 (ptr (n) 0) H3).bind fun v4 =>
 (C 15 [v4,t 1] H3 (n+7)).bind fun q5 =>
 (ld true 3 (ptr (n) 0) q5.2.1).bind fun v6 =>
 (C 14 [v6] q5.2.1 (q5.2.2+16)).bind fun q7 =>
 (un .not q7.1).bind fun v8 =>
 let t10:Tm:=put (put (put (put (put (put (put (put (put (put (put t 2 (ptr (n) 0)) 4 (ptr (n+1) 0)) 5 (.bool false)) 8 v4) 9 (t 1)) 10 q5.1) 6 q5.1) 11 v6) 12 q7.1) 13 v8) 14 v8
 (gsel v8 false
 ((Zr .plain .lss q5.1 (.int .i64 0)).bind fun v11 =>
 some (put (put t10 15 q5.1) 16 v11,q7.2.1,q7.2.2))
 (some (put (put t10 15 (.tuple #[])) 16 (.tuple #[]),q7.2.1,q7.2.2))
 ).bind fun (q9:R3) =>
 (Zw (q9.1 14) (.bool true) (q9.1 16)).bind fun v12 =>
 let t14:Tm:=put (put q9.1 17 v12) 18 v12
 (gsel v12 false
 ((Zo 2 (t14 2)).bind fun v15 =>
 (ld false 1 v15 q9.2.1).bind fun v16 =>
 (idxA 3 v16 (t14 6)).bind fun v17 =>
 (Zo 2 v17).bind fun v18 =>
 (ld false 1 v18 q9.2.1).bind fun v19 =>
 (Zr .plain .neq v19 (.int .i64 0)).bind fun v20 =>
 some (put (put (put (put (put (put (put t14 19 v15) 20 v16) 21 (t14 6)) 22 v17) 23 v18) 24 v19) 25 v20,q9.2.1,q9.2.2))
 (some (put (put (put (put (put (put (put t14 19 (.tuple #[])) 20 (.tuple #[])) 21 (.tuple #[])) 22 (.tuple #[])) 23 (.tuple #[])) 24 (.tuple #[])) 25 (.tuple #[]),q9.2.1,q9.2.2))
 ).bind fun (q13:R3) =>
 (Zw (q13.1 18) (.bool true) (q13.1 25)).bind fun v21 =>
 csel v21
 ((bld [nilS,.int .i64 0,.int .i64 0,.int .i64 0,.int .i64 0,.int .i64 0,.int .i64 0,.int .i64 0] []).bind fun v22 =>
 (st true 8 (q13.1 4) v22 q13.2.1).bind fun H23 =>
 (ld true 8 (q13.1 4) H23).bind fun v24 =>
 iteK ([v24,.bool false].all notTup) <|
 some (.tuple ⟨[v24,.bool false]⟩,H23,q13.2.2+3))
 ((bld [.int .i64 0,.int .i64 0,.string ⟨#[]⟩,.int .i64 0,.int .i64 0] [(0,1,.int .i64 1)]).bind fun v25 =>
 (bld [.int .i64 0,.int .i64 0,.string ⟨#[]⟩,.int .i64 0,.int .i64 0] [(0,1,.int .i64 5)]).bind fun v26 =>
 (bsl (q13.2.2+2) 5 2 [.int .i64 0,.int .i64 0,.string ⟨#[]⟩,.int .i64 0,.int .i64 0] [(0,5,v25),(5,5,v26)] q13.2.1).bind fun p27 =>
 (bld [nilS] [(0,1,p27.1)]).bind fun v28 =>
 let H29:=p27.2.set (q13.2.2+4) (some (.row [nilS] 0 true))
 (st true 1 (ptr (q13.2.2+4) 0) v28 H29).bind fun H30 =>
 (ld true 1 (ptr (q13.2.2+4) 0) H30).bind fun v31 =>
 (Zo 2 (q13.1 2)).bind fun v32 =>
 (ld false 1 v32 H30).bind fun v33 =>
 (idxA 3 v33 (q13.1 6)).bind fun v34 =>
 (Zo 1 v34).bind fun v35 =>
 (ld false 1 v35 H30).bind fun v36 =>
 (bld [nilS,.int .i64 0,.int .i64 0,.int .i64 0,.int .i64 0,.int .i64 0,.int .i64 0,.int .i64 0] [(0,1,v31),(1,1,v36),(3,1,.int .i64 1)]).bind fun v37 =>
 (st true 8 (q13.1 4) v37 H30).bind fun H38 =>
 (ld true 8 (q13.1 4) H38).bind fun v39 =>
 iteK ([v39,.bool true].all notTup) <|
 some (.tuple ⟨[v39,.bool true]⟩,H38,q13.2.2+16))
theorem s18 (C:Zp) (L:Zs→Zs) (t:Tm) (H:Hp) (n:Nat):bodyK Try.prog C L Try.f18 t H n=S18 C L t H n:=by kernel_rfl
theorem c18 (args:List Value) (H:Hp) (n:Nat):Call Try.prog 18 args H n=S18 (Call Try.prog) Yf (Yg args) H n:=(Zu Try.func18 args H n).trans (s18 ..)
noncomputable def S19 (C:Zp) (L:Zs→Zs) (t:Tm) (H:Hp) (n:Nat):Option (Value × Hp × Nat) :=
 let H1:=H.set (n) (some (.row [nilS,nilS,nilS] 0 true))
 let H2:=H1.set (n+1) (some (.row [nilS] 0 true))
 (C 33 [t 0] H2 (n+6)).bind fun q3 =>
 (C 57 [q3.1] q3.2.1 (q3.2.2+4)).bind fun q4 =>
 let H5:=q4.2.1.set (q3.2.2+2) (some (.row [nilS,nilS,nilS] 0 true))
 (st true 3 (ptr (q3.2.2+2) 0) q4.1 H5).bind fun H6 =>
 (C 39 [q3.1] H6 (q4.2.2+4)).bind fun q7 =>
 let H8:=q7.2.1.set (q4.2.2+2) (some (.row [nilS] 0 true))
 (st true 1 (ptr (q4.2.2+2) 0) q7.1 H8).bind fun H9 =>
 (ld true 1 (ptr (q4.2.2+2) 0) H9).bind fun v10 =>
 (C 48 [v10] H9 (q7.2.2+19)).bind fun q11 =>
 let t13:Tm:=put (put (put (put (put (put (put (put (put (put (put (put (put (put (put t 2 (ptr (n) 0)) 3 (ptr (n+1) 0)) 4 (.int .i64 0)) 9 (t 0)) 10 q3.1) 5 q3.1) 11 q3.1) 12 q4.1) 6 (ptr (q3.2.2+2) 0)) 13 q3.1) 14 q7.1) 7 (ptr (q4.2.2+2) 0)) 15 v10) 16 q11.1) 17 q11.1
 (gsel q11.1 true
 ((Zo 0 (ptr (q4.2.2+2) 0)).bind fun v14 =>
 (ld false 1 v14 q11.2.1).bind fun v15 =>
 (lenV false v15).bind fun v16 =>
 (Zr .plain .gtr v16 (.int .i64 0)).bind fun v17 =>
 some (put (put (put (put t13 18 v14) 19 v15) 20 v16) 21 v17,q11.2.1,q11.2.2))
 (some (put (put (put (put t13 18 (.tuple #[])) 19 (.tuple #[])) 20 (.tuple #[])) 21 (.tuple #[]),q11.2.1,q11.2.2))
 ).bind fun (q12:R3) =>
 (Zw (q12.1 17) (q12.1 21) (.bool false)).bind fun v18 =>
 let t20:Tm:=put (put q12.1 22 v18) 23 v18
 (gsel v18 true
 ((Zo 0 (t20 7)).bind fun v21 =>
 (ld false 1 v21 q12.2.1).bind fun v22 =>
 (lenV false v22).bind fun v23 =>
 (Zr .plain .lss v23 (.int .i64 40)).bind fun v24 =>
 some (put (put (put (put t20 24 v21) 25 v22) 26 v23) 27 v24,q12.2.1,q12.2.2))
 (some (put (put (put (put t20 24 (.tuple #[])) 25 (.tuple #[])) 26 (.tuple #[])) 27 (.tuple #[]),q12.2.1,q12.2.2))
 ).bind fun (q19:R3) =>
 (Zw (q19.1 23) (q19.1 27) (.bool false)).bind fun v25 =>
 let t27:Tm:=put (put q19.1 28 v25) 29 v25
 (gsel v25 true
 ((C 35 [t27 5,.int .i64 4] q19.2.1 (q19.2.2)).bind fun q28 =>
 (un .not q28.1).bind fun v29 =>
 some (put (put (put t27 30 (t27 5)) 31 q28.1) 32 v29,q28.2.1,q28.2.2))
 (some (put (put (put t27 30 (.tuple #[])) 31 (.tuple #[])) 32 (.tuple #[]),q19.2.1,q19.2.2))
 ).bind fun (q26:R3) =>
 (Zw (q26.1 29) (q26.1 32) (.bool false)).bind fun v30 =>
 csel v30
 ((Zo 1 (q26.1 6)).bind fun v31 =>
 (ld false 1 v31 q26.2.1).bind fun v32 =>
 (lenV false v32).bind fun v33 =>
 (Zr .plain .mul (.int .i64 8) v33).bind fun v34 =>
 (bsl (q26.2.2+5) 1 5 [.int .i64 0] [(0,1,.int .i64 0),(1,1,.int .i64 8),(2,1,.int .i64 16),(3,1,.int .i64 9),(4,1,v34)] q26.2.1).bind fun p35 =>
 (C 62 [q26.1 5,p35.1] p35.2 (q26.2.2+15)).bind fun q36 =>
 (Zo 0 (q26.1 7)).bind fun v37 =>
 (ld false 1 v37 q36.2.1).bind fun v38 =>
 ask (ld false 1 v37 p35.2=some v38) <|
 (lenV false v38).bind fun v39 =>
 (C 38 [q26.1 5,v39] q36.2.1 (q36.2.2)).bind fun q40 =>
 (bld [.int .i64 0,.int .i64 0,.string ⟨#[]⟩,.int .i64 0,.int .i64 0] [(0,1,.int .i64 6),(1,1,q36.1),(3,1,q40.1)]).bind fun v41 =>
 (C 41 [q26.1 7,v41] q40.2.1 (q40.2.2)).bind fun q42 =>
 (ld true 3 (q26.1 6) q42.2.1).bind fun v43 =>
 (ld true 1 (q26.1 7) q42.2.1).bind fun v44 =>
 (st true 3 (q26.1 2) v43 q42.2.1).bind fun H45 =>
 ask (ld true 1 (q26.1 7) H45=some v44) <|
 (st true 1 (q26.1 3) v44 H45).bind fun H46 =>
 (ld true 3 (q26.1 2) H46).bind fun v47 =>
 (ld true 1 (q26.1 3) H46).bind fun v48 =>
 iteK ([v47,v48,q42.1].all notTup) <|
 some (.tuple ⟨[v47,v48,q42.1]⟩,H46,q42.2.2+6))
 ((ld true 3 (q26.1 6) q26.2.1).bind fun v49 =>
 (ld true 1 (q26.1 7) q26.2.1).bind fun v50 =>
 (ld true 1 (q26.1 7) q26.2.1).bind fun v51 =>
 (C 40 [q26.1 5,v51] q26.2.1 (q26.2.2+8)).bind fun q52 =>
 ask (ld true 1 (q26.1 7) q52.2.1=some v50) <|
 ask (ld true 3 (q26.1 6) q52.2.1=some v49) <|
 (st true 3 (q26.1 2) v49 q52.2.1).bind fun H53 =>
 ask (ld true 1 (q26.1 7) H53=some v50) <|
 (st true 1 (q26.1 3) v50 H53).bind fun H54 =>
 (ld true 3 (q26.1 2) H54).bind fun v55 =>
 (ld true 1 (q26.1 3) H54).bind fun v56 =>
 iteK ([v55,v56,q52.1].all notTup) <|
 some (.tuple ⟨[v55,v56,q52.1]⟩,H54,q52.2.2))
theorem s19 (C:Zp) (L:Zs→Zs) (t:Tm) (H:Hp) (n:Nat):bodyK Try.prog C L Try.f19 t H n=S19 C L t H n:=by kernel_rfl
theorem c19 (args:List Value) (H:Hp) (n:Nat):Call Try.prog 19 args H n=S19 (Call Try.prog) Yf (Yg args) H n:=(Zu Try.func19 args H n).trans (s19 ..)
noncomputable def S20 (C:Zp) (L:Zs→Zs) (t:Tm) (H:Hp) (n:Nat):Option (Value × Hp × Nat) :=
 (vcells (t 0)).bind fun c2 =>
 let H1:=H.set (n) (some (.row c2 0 true))
 (vcells (t 1)).bind fun c4 =>
 let H3:=H1.set (n+1) (some (.row c4 0 true))
 let H5:=H3.set (n+2) (some (.row [nilS,.int .i64 0,.int .i64 0,.int .i64 0,.int .i64 0,.int .i64 0,.int .i64 0,.int .i64 0] 0 true))
 (ld true 3 (ptr (n) 0) H5).bind fun v6 =>
 (C 12 [v6] H5 (n+49)).bind fun q7 =>
 (un .not q7.1).bind fun v8 =>
 let t10:Tm:=put (put (put (put (put (put (put (put t 3 (ptr (n) 0)) 4 (ptr (n+1) 0)) 6 (ptr (n+2) 0)) 7 (.bool false)) 9 v6) 10 q7.1) 11 v8) 12 v8
 (gsel v8 false
 ((ld true 1 (ptr (n+1) 0) q7.2.1).bind fun v11 =>
 (C 42 [v11] q7.2.1 (q7.2.2)).bind fun q12 =>
 (un .not q12.1).bind fun v13 =>
 some ⟨put (put (put t10 13 v11) 14 q12.1) 15 v13,q12.2.1,q12.2.2,[⟨4,true,1,ptr (n+1) 0,v11⟩,⟨0,true,3,ptr (n) 0,v6⟩],[(5,q7.2.1),(1,H5)]⟩)
 (some ⟨put (put (put t10 13 (.tuple #[])) 14 (.tuple #[])) 15 (.tuple #[]),q7.2.1,q7.2.2,[⟨0,true,3,ptr (n) 0,v6⟩],[(1,H5)]⟩)
 ).bind fun (q9:R5) =>
 (Zw (q9.t 12) (.bool true) (q9.t 15)).bind fun v14 =>
 let t16:Tm:=put (put q9.t 16 v14) 17 v14
 (gsel v14 false
 ((ld true 1 (t16 4) q9.H).bind fun v17 =>
 askB 511 true 1 (t16 4) v17 q9.hs <|
 (C 45 [v17,t16 2] q9.H (q9.n)).bind fun q18 =>
 asks 2047 q18.2.1 q9.rs <|
 (un .not q18.1).bind fun v19 =>
 some ⟨put (put (put (put t16 18 v17) 19 (t16 2)) 20 q18.1) 21 v19,q18.2.1,q18.2.2,(⟨9,true,1,t16 4,v17⟩ :: q9.rs),((11,q9.H) :: q9.hs)⟩)
 (some ⟨put (put (put (put t16 18 (.tuple #[])) 19 (.tuple #[])) 20 (.tuple #[])) 21 (.tuple #[]),q9.H,q9.n,q9.rs,q9.hs⟩)
 ).bind fun (q15:R5) =>
 (Zw (q15.t 17) (.bool true) (q15.t 21)).bind fun v20 =>
 let t22:Tm:=put (put q15.t 22 v20) 23 v20
 (gsel v20 false
 ((Zo 0 (t22 4)).bind fun v23 =>
 (ld false 1 v23 q15.H).bind fun v24 =>
 askB 65535 false 1 v23 v24 q15.hs <|
 (idxA 5 v24 (t22 2)).bind fun v25 =>
 (Zo 0 v25).bind fun v26 =>
 (ld false 1 v26 q15.H).bind fun v27 =>
 askB 1048575 false 1 v26 v27 q15.hs <|
 (Zr .plain .neq v27 (.int .i64 6)).bind fun v28 =>
 some ⟨put (put (put (put (put (put (put t22 24 v23) 25 v24) 26 (t22 2)) 27 v25) 28 v26) 29 v27) 30 v28,q15.H,q15.n,(⟨20,false,1,v26,v27⟩ :: ⟨16,false,1,v23,v24⟩ :: q15.rs),q15.hs⟩)
 (some ⟨put (put (put (put (put (put (put t22 24 (.tuple #[])) 25 (.tuple #[])) 26 (.tuple #[])) 27 (.tuple #[])) 28 (.tuple #[])) 29 (.tuple #[])) 30 (.tuple #[]),q15.H,q15.n,q15.rs,q15.hs⟩)
 ).bind fun (q21:R5) =>
 (Zw (q21.t 23) (.bool true) (q21.t 30)).bind fun v29 =>
 let t31:Tm:=put (put q21.t 31 v29) 32 v29
 (gsel v29 false
 ((Zo 0 (t31 4)).bind fun v32 =>
 (ld false 1 v32 q21.H).bind fun v33 =>
 askB 33554431 false 1 v32 v33 q21.hs <|
 (idxA 5 v33 (t31 2)).bind fun v34 =>
 (Zo 1 v34).bind fun v35 =>
 (ld false 1 v35 q21.H).bind fun v36 =>
 askB 536870911 false 1 v35 v36 q21.hs <|
 (Zr .plain .rem v36 (.int .i64 8)).bind fun v37 =>
 (Zr .plain .neq v37 (.int .i64 0)).bind fun v38 =>
 some ⟨put (put (put (put (put (put (put (put t31 33 v32) 34 v33) 35 (t31 2)) 36 v34) 37 v35) 38 v36) 39 v37) 40 v38,q21.H,q21.n,(⟨29,false,1,v35,v36⟩ :: ⟨25,false,1,v32,v33⟩ :: q21.rs),q21.hs⟩)
 (some ⟨put (put (put (put (put (put (put (put t31 33 (.tuple #[])) 34 (.tuple #[])) 35 (.tuple #[])) 36 (.tuple #[])) 37 (.tuple #[])) 38 (.tuple #[])) 39 (.tuple #[])) 40 (.tuple #[]),q21.H,q21.n,q21.rs,q21.hs⟩)
 ).bind fun (q30:R5) =>
 (Zw (q30.t 32) (.bool true) (q30.t 40)).bind fun v39 =>
 let t41:Tm:=put (put q30.t 41 v39) 42 v39
 (gsel v39 false
 ((ld true 3 (t41 3) q30.H).bind fun v42 =>
 askB 17179869183 true 3 (t41 3) v42 q30.hs <|
 (Zo 0 (t41 4)).bind fun v43 =>
 (ld false 1 v43 q30.H).bind fun v44 =>
 askB 51539607551 false 1 v43 v44 q30.hs <|
 (idxA 5 v44 (t41 2)).bind fun v45 =>
 (Zo 1 v45).bind fun v46 =>
 (ld false 1 v46 q30.H).bind fun v47 =>
 askB 1082331758591 false 1 v46 v47 q30.hs <|
 (Zr .plain .quo v47 (.int .i64 8)).bind fun v48 =>
 (C 63 [v42,v48] q30.H (q30.n)).bind fun q49 =>
 asks 4398046511103 q49.2.1 q30.rs <|
 (un .not q49.1).bind fun v50 =>
 some ⟨put (put (put (put (put (put (put (put (put (put t41 43 v42) 44 v43) 45 v44) 46 (t41 2)) 47 v45) 48 v46) 49 v47) 50 v48) 51 q49.1) 52 v50,q49.2.1,q49.2.2,(⟨40,false,1,v46,v47⟩ :: ⟨36,false,1,v43,v44⟩ :: ⟨34,true,3,t41 3,v42⟩ :: q30.rs),((42,q30.H) :: q30.hs)⟩)
 (some ⟨put (put (put (put (put (put (put (put (put (put t41 43 (.tuple #[])) 44 (.tuple #[])) 45 (.tuple #[])) 46 (.tuple #[])) 47 (.tuple #[])) 48 (.tuple #[])) 49 (.tuple #[])) 50 (.tuple #[])) 51 (.tuple #[])) 52 (.tuple #[]),q30.H,q30.n,q30.rs,q30.hs⟩)
 ).bind fun (q40:R5) =>
 (Zw (q40.t 42) (.bool true) (q40.t 52)).bind fun v51 =>
 csel v51
 ((bld [nilS,.int .i64 0,.int .i64 0,.int .i64 0,.int .i64 0,.int .i64 0,.int .i64 0,.int .i64 0] []).bind fun v52 =>
 (st true 8 (q40.t 6) v52 q40.H).bind fun H53 =>
 (ld true 8 (q40.t 6) H53).bind fun v54 =>
 iteK ([v54,.bool false].all notTup) <|
 some (.tuple ⟨[v54,.bool false]⟩,H53,q40.n+3))
 ((ld true 1 (q40.t 4) q40.H).bind fun v55 =>
 (C 46 [v55] q40.H (q40.n+12)).bind fun q56 =>
 (Zo 0 (q40.t 4)).bind fun v57 =>
 (ld false 1 v57 q56.2.1).bind fun v58 =>
 ask (ld false 1 v57 q40.H=some v58) <|
 (idxA 5 v58 (q40.t 2)).bind fun v59 =>
 (Zo 1 v59).bind fun v60 =>
 (ld false 1 v60 q56.2.1).bind fun v61 =>
 ask (ld false 1 v60 q40.H=some v61) <|
 (Zr .plain .quo v61 (.int .i64 8)).bind fun v62 =>
 (bld [nilS,.int .i64 0,.int .i64 0,.int .i64 0,.int .i64 0,.int .i64 0,.int .i64 0,.int .i64 0] [(0,1,q56.1),(1,1,v62)]).bind fun v63 =>
 let H64:=q56.2.1.set (q40.n+10) (some (.row [nilS,.int .i64 0,.int .i64 0,.int .i64 0,.int .i64 0,.int .i64 0,.int .i64 0,.int .i64 0] 0 true))
 (st true 8 (ptr (q40.n+10) 0) v63 H64).bind fun H65 =>
 (Zo 0 (ptr (q40.n+10) 0)).bind fun v66 =>
 (bld [.int .i64 0,.int .i64 0,.string ⟨#[]⟩,.int .i64 0,.int .i64 0] [(0,1,.int .i64 1)]).bind fun v67 =>
 (C 64 [v66,v67] H65 (q56.2.2+5)).bind fun q68 =>
 (Zo 2 (ptr (q40.n+10) 0)).bind fun v69 =>
 (st false 1 v69 q68.1 q68.2.1).bind fun H70 =>
 (Zo 2 (ptr (q40.n+10) 0)).bind fun v71 =>
 (ld false 1 v71 H70).bind fun v72 =>
 (Zo 4 (ptr (q40.n+10) 0)).bind fun v73 =>
 (st false 1 v73 v72 H70).bind fun H74 =>
 (Zo 0 (ptr (q40.n+10) 0)).bind fun v75 =>
 (Zo 2 (ptr (q40.n+10) 0)).bind fun v76 =>
 (ld false 1 v76 H74).bind fun v77 =>
 (Zo 0 (q40.t 4)).bind fun v78 =>
 (ld false 1 v78 H74).bind fun v79 =>
 (idxA 5 v79 (q40.t 2)).bind fun v80 =>
 (Zo 3 v80).bind fun v81 =>
 (ld false 1 v81 H74).bind fun v82 =>
 (C 65 [v75,v77,v82] H74 (q68.2.2+16)).bind fun q83 =>
 (Zo 3 (ptr (q40.n+10) 0)).bind fun v84 =>
 (st false 1 v84 q83.1 q83.2.1).bind fun H85 =>
 (Zo 0 (ptr (q40.n+10) 0)).bind fun v86 =>
 (Zo 0 v86).bind fun v87 =>
 (ld false 1 v87 H85).bind fun v88 =>
 (lenV false v88).bind fun v89 =>
 (Zr .plain .gtr v89 (.int .i64 3000)).bind fun v90 =>
 csel v90
 ((bld [nilS,.int .i64 0,.int .i64 0,.int .i64 0,.int .i64 0,.int .i64 0,.int .i64 0,.int .i64 0] []).bind fun v91 =>
 (st true 8 (q40.t 6) v91 H85).bind fun H92 =>
 (ld true 8 (q40.t 6) H92).bind fun v93 =>
 iteK ([v93,.bool false].all notTup) <|
 some (.tuple ⟨[v93,.bool false]⟩,H92,q83.2.2+8))
 ((ld true 8 (ptr (q40.n+10) 0) H85).bind fun v94 =>
 (st true 8 (q40.t 6) v94 H85).bind fun H95 =>
 (ld true 8 (q40.t 6) H95).bind fun v96 =>
 iteK ([v96,.bool true].all notTup) <|
 some (.tuple ⟨[v96,.bool true]⟩,H95,q83.2.2+8)))
theorem s20 (C:Zp) (L:Zs→Zs) (t:Tm) (H:Hp) (n:Nat):bodyK Try.prog C L Try.f20 t H n=S20 C L t H n:=by kernel_rfl
theorem c20 (args:List Value) (H:Hp) (n:Nat):Call Try.prog 20 args H n=S20 (Call Try.prog) Yf (Yg args) H n:=(Zu Try.func20 args H n).trans (s20 ..)
noncomputable def S21 (C:Zp) (L:Zs→Zs) (t:Tm) (H:Hp) (n:Nat):Option (Value × Hp × Nat) :=
 (vcells (t 0)).bind fun c2 =>
 let H1:=H.set (n) (some (.row c2 0 true))
 (vcells (t 1)).bind fun c4 =>
 let H3:=H1.set (n+1) (some (.row c4 0 true))
 let H5:=H3.set (n+2) (some (.row [nilS,.int .i64 0,.int .i64 0,.int .i64 0,.int .i64 0,.int .i64 0,.int .i64 0,.int .i64 0] 0 true))
 (ld true 3 (ptr (n) 0) H5).bind fun v6 =>
 (C 14 [v6] H5 (n+25)).bind fun q7 =>
 (un .not q7.1).bind fun v8 =>
 let t10:Tm:=put (put (put (put (put (put (put (put t 3 (ptr (n) 0)) 4 (ptr (n+1) 0)) 6 (ptr (n+2) 0)) 7 (.bool false)) 12 v6) 13 q7.1) 14 v8) 15 v8
 (gsel v8 false
 ((ld true 1 (ptr (n+1) 0) q7.2.1).bind fun v11 =>
 (C 48 [v11] q7.2.1 (q7.2.2)).bind fun q12 =>
 (un .not q12.1).bind fun v13 =>
 some (put (put (put t10 16 v11) 17 q12.1) 18 v13,q12.2.1,q12.2.2))
 (some (put (put (put t10 16 (.tuple #[])) 17 (.tuple #[])) 18 (.tuple #[]),q7.2.1,q7.2.2))
 ).bind fun (q9:R3) =>
 (Zw (q9.1 15) (.bool true) (q9.1 18)).bind fun v14 =>
 let t16:Tm:=put (put q9.1 19 v14) 20 v14
 (gsel v14 false
 ((ld true 1 (t16 4) q9.2.1).bind fun v17 =>
 (C 49 [v17,t16 2] q9.2.1 (q9.2.2)).bind fun q18 =>
 (un .not q18.1).bind fun v19 =>
 some (put (put (put (put t16 21 v17) 22 (t16 2)) 23 q18.1) 24 v19,q18.2.1,q18.2.2))
 (some (put (put (put (put t16 21 (.tuple #[])) 22 (.tuple #[])) 23 (.tuple #[])) 24 (.tuple #[]),q9.2.1,q9.2.2))
 ).bind fun (q15:R3) =>
 (Zw (q15.1 20) (.bool true) (q15.1 24)).bind fun v20 =>
 let t22:Tm:=put (put q15.1 25 v20) 26 v20
 (gsel v20 false
 ((Zo 0 (t22 4)).bind fun v23 =>
 (ld false 1 v23 q15.2.1).bind fun v24 =>
 (lenV false v24).bind fun v25 =>
 (Zr .plain .add v25 (.int .i64 2)).bind fun v26 =>
 (Zr .plain .gtr v26 (.int .i64 3000)).bind fun v27 =>
 some (put (put (put (put (put t22 27 v23) 28 v24) 29 v25) 30 v26) 31 v27,q15.2.1,q15.2.2))
 (some (put (put (put (put (put t22 27 (.tuple #[])) 28 (.tuple #[])) 29 (.tuple #[])) 30 (.tuple #[])) 31 (.tuple #[]),q15.2.1,q15.2.2))
 ).bind fun (q21:R3) =>
 (Zw (q21.1 26) (.bool true) (q21.1 31)).bind fun v28 =>
 csel v28
 ((bld [nilS,.int .i64 0,.int .i64 0,.int .i64 0,.int .i64 0,.int .i64 0,.int .i64 0,.int .i64 0] []).bind fun v29 =>
 (st true 8 (q21.1 6) v29 q21.2.1).bind fun H30 =>
 (ld true 8 (q21.1 6) H30).bind fun v31 =>
 iteK ([v31,.bool false].all notTup) <|
 some (.tuple ⟨[v31,.bool false]⟩,H30,q21.2.2+3))
 ((Zo 0 (q21.1 4)).bind fun v32 =>
 (ld false 1 v32 q21.2.1).bind fun v33 =>
 (idxA 5 v33 (q21.1 2)).bind fun v34 =>
 (ld true 5 v34 q21.2.1).bind fun v35 =>
 let H36:=q21.2.1.set (q21.2.2+5) (some (.row [.int .i64 0,.int .i64 0,.string ⟨#[]⟩,.int .i64 0,.int .i64 0] 0 true))
 (st true 5 (ptr (q21.2.2+5) 0) v35 H36).bind fun H37 =>
 (Zo 0 (ptr (q21.2.2+5) 0)).bind fun v38 =>
 (ld false 1 v38 H37).bind fun v39 =>
 (Zr .plain .neq v39 (.int .i64 6)).bind fun v40 =>
 let t42:Tm:=put (put (put (put (put (put (put (put (put (put (put q21.1 32 v28) 34 v32) 35 v33) 36 (q21.1 2)) 37 v34) 38 v35) 8 (ptr (q21.2.2+5) 0)) 39 v38) 40 v39) 41 v40) 42 v40
 (gsel v40 false
 ((Zo 1 (ptr (q21.2.2+5) 0)).bind fun v43 =>
 (ld false 1 v43 H37).bind fun v44 =>
 (Zr .plain .rem v44 (.int .i64 8)).bind fun v45 =>
 (Zr .plain .neq v45 (.int .i64 0)).bind fun v46 =>
 some (put (put (put (put t42 43 v43) 44 v44) 45 v45) 46 v46,H37,q21.2.2+25))
 (some (put (put (put (put t42 43 (.tuple #[])) 44 (.tuple #[])) 45 (.tuple #[])) 46 (.tuple #[]),H37,q21.2.2+25))
 ).bind fun (q41:R3) =>
 (Zw (q41.1 42) (.bool true) (q41.1 46)).bind fun v47 =>
 let t49:Tm:=put (put q41.1 47 v47) 48 v47
 (gsel v47 false
 ((Zo 1 (t49 8)).bind fun v50 =>
 (ld false 1 v50 q41.2.1).bind fun v51 =>
 (Zr .plain .quo v51 (.int .i64 8)).bind fun v52 =>
 (Zo 1 (t49 3)).bind fun v53 =>
 (ld false 1 v53 q41.2.1).bind fun v54 =>
 (lenV false v54).bind fun v55 =>
 (Zr .plain .geq v52 v55).bind fun v56 =>
 some (put (put (put (put (put (put (put t49 49 v50) 50 v51) 51 v52) 52 v53) 53 v54) 54 v55) 55 v56,q41.2.1,q41.2.2))
 (some (put (put (put (put (put (put (put t49 49 (.tuple #[])) 50 (.tuple #[])) 51 (.tuple #[])) 52 (.tuple #[])) 53 (.tuple #[])) 54 (.tuple #[])) 55 (.tuple #[]),q41.2.1,q41.2.2))
 ).bind fun (q48:R3) =>
 (Zw (q48.1 48) (.bool true) (q48.1 55)).bind fun v57 =>
 csel v57
 ((bld [nilS,.int .i64 0,.int .i64 0,.int .i64 0,.int .i64 0,.int .i64 0,.int .i64 0,.int .i64 0] []).bind fun v58 =>
 (st true 8 (q48.1 6) v58 q48.2.1).bind fun H59 =>
 (ld true 8 (q48.1 6) H59).bind fun v60 =>
 iteK ([v60,.bool false].all notTup) <|
 some (.tuple ⟨[v60,.bool false]⟩,H59,q48.2.2+3))
 ((ld true 1 (q48.1 4) q48.2.1).bind fun v61 =>
 (C 50 [v61] q48.2.1 (q48.2.2+4)).bind fun q62 =>
 let H63:=q62.2.1.set (q48.2.2+2) (some (.row [nilS] 0 true))
 (st true 1 (ptr (q48.2.2+2) 0) q62.1 H63).bind fun H64 =>
 (bld [.int .i64 0,.int .i64 0,.string ⟨#[]⟩,.int .i64 0,.int .i64 0] [(0,1,.int .i64 1)]).bind fun v65 =>
 (C 41 [ptr (q48.2.2+2) 0,v65] H64 (q62.2.2+3)).bind fun q66 =>
 (Zo 3 (q48.1 8)).bind fun v67 =>
 (ld false 1 v67 q66.2.1).bind fun v68 =>
 (bld [.int .i64 0,.int .i64 0,.string ⟨#[]⟩,.int .i64 0,.int .i64 0] [(0,1,.int .i64 5),(3,1,q66.1),(4,1,v68)]).bind fun v69 =>
 (C 41 [ptr (q48.2.2+2) 0,v69] q66.2.1 (q66.2.2+6)).bind fun q70 =>
 (ld true 1 (ptr (q48.2.2+2) 0) q70.2.1).bind fun v71 =>
 (Zo 1 (q48.1 8)).bind fun v72 =>
 (ld false 1 v72 q70.2.1).bind fun v73 =>
 (Zr .plain .quo v73 (.int .i64 8)).bind fun v74 =>
 (bld [nilS,.int .i64 0,.int .i64 0,.int .i64 0,.int .i64 0,.int .i64 0,.int .i64 0,.int .i64 0] [(0,1,v71),(1,1,v74),(2,1,q66.1),(3,1,q70.1),(4,1,q66.1)]).bind fun v75 =>
 (st true 8 (q48.1 6) v75 q70.2.1).bind fun H76 =>
 (ld true 8 (q48.1 6) H76).bind fun v77 =>
 iteK ([v77,.bool true].all notTup) <|
 some (.tuple ⟨[v77,.bool true]⟩,H76,q70.2.2+10)))
theorem s21 (C:Zp) (L:Zs→Zs) (t:Tm) (H:Hp) (n:Nat):bodyK Try.prog C L Try.f21 t H n=S21 C L t H n:=by kernel_rfl
theorem c21 (args:List Value) (H:Hp) (n:Nat):Call Try.prog 21 args H n=S21 (Call Try.prog) Yf (Yg args) H n:=(Zu Try.func21 args H n).trans (s21 ..)
noncomputable def S22 (C:Zp) (L:Zs→Zs) (t:Tm) (H:Hp) (n:Nat):Option (Value × Hp × Nat) :=
 (vcells (t 0)).bind fun c2 =>
 let H1:=H.set (n) (some (.row c2 0 true))
 (vcells (t 1)).bind fun c4 =>
 let H3:=H1.set (n+1) (some (.row c4 0 true))
 (ld true 3 (ptr (n) 0) H3).bind fun v5 =>
 (C 12 [v5] H3 (n+36)).bind fun q6 =>
 (un .not q6.1).bind fun v7 =>
 let t9:Tm:=put (put (put (put (put (put (put t 2 (ptr (n) 0)) 3 (ptr (n+1) 0)) 4 (.bool false)) 5 v5) 6 q6.1) 7 v7) 8 v7
 (gsel v7 false
 ((Zo 0 (ptr (n+1) 0)).bind fun v10 =>
 (ld true 1 v10 q6.2.1).bind fun v11 =>
 (C 42 [v11] q6.2.1 (q6.2.2)).bind fun q12 =>
 (un .not q12.1).bind fun v13 =>
 some (put (put (put (put t9 9 v10) 10 v11) 11 q12.1) 12 v13,q12.2.1,q12.2.2))
 (some (put (put (put (put t9 9 (.tuple #[])) 10 (.tuple #[])) 11 (.tuple #[])) 12 (.tuple #[]),q6.2.1,q6.2.2))
 ).bind fun (q8:R3) =>
 (Zw (q8.1 8) (.bool true) (q8.1 12)).bind fun v14 =>
 let t16:Tm:=put (put q8.1 13 v14) 14 v14
 (gsel v14 false
 ((Zo 0 (t16 3)).bind fun v17 =>
 (ld true 1 v17 q8.2.1).bind fun v18 =>
 (Zo 2 (t16 3)).bind fun v19 =>
 (ld false 1 v19 q8.2.1).bind fun v20 =>
 (C 45 [v18,v20] q8.2.1 (q8.2.2)).bind fun q21 =>
 (un .not q21.1).bind fun v22 =>
 some (put (put (put (put (put (put t16 15 v17) 16 v18) 17 v19) 18 v20) 19 q21.1) 20 v22,q21.2.1,q21.2.2))
 (some (put (put (put (put (put (put t16 15 (.tuple #[])) 16 (.tuple #[])) 17 (.tuple #[])) 18 (.tuple #[])) 19 (.tuple #[])) 20 (.tuple #[]),q8.2.1,q8.2.2))
 ).bind fun (q15:R3) =>
 (Zw (q15.1 14) (.bool true) (q15.1 20)).bind fun v23 =>
 let t25:Tm:=put (put q15.1 21 v23) 22 v23
 (gsel v23 false
 ((Zo 0 (t25 3)).bind fun v26 =>
 (ld true 1 v26 q15.2.1).bind fun v27 =>
 (Zo 3 (t25 3)).bind fun v28 =>
 (ld false 1 v28 q15.2.1).bind fun v29 =>
 (C 45 [v27,v29] q15.2.1 (q15.2.2)).bind fun q30 =>
 (un .not q30.1).bind fun v31 =>
 some (put (put (put (put (put (put t25 23 v26) 24 v27) 25 v28) 26 v29) 27 q30.1) 28 v31,q30.2.1,q30.2.2))
 (some (put (put (put (put (put (put t25 23 (.tuple #[])) 24 (.tuple #[])) 25 (.tuple #[])) 26 (.tuple #[])) 27 (.tuple #[])) 28 (.tuple #[]),q15.2.1,q15.2.2))
 ).bind fun (q24:R3) =>
 (Zw (q24.1 22) (.bool true) (q24.1 28)).bind fun v32 =>
 let t34:Tm:=put (put q24.1 29 v32) 30 v32
 (gsel v32 false
 ((Zo 0 (t34 3)).bind fun v35 =>
 (ld true 1 v35 q24.2.1).bind fun v36 =>
 (Zo 4 (t34 3)).bind fun v37 =>
 (ld false 1 v37 q24.2.1).bind fun v38 =>
 (C 45 [v36,v38] q24.2.1 (q24.2.2)).bind fun q39 =>
 (un .not q39.1).bind fun v40 =>
 some (put (put (put (put (put (put t34 31 v35) 32 v36) 33 v37) 34 v38) 35 q39.1) 36 v40,q39.2.1,q39.2.2))
 (some (put (put (put (put (put (put t34 31 (.tuple #[])) 32 (.tuple #[])) 33 (.tuple #[])) 34 (.tuple #[])) 35 (.tuple #[])) 36 (.tuple #[]),q24.2.1,q24.2.2))
 ).bind fun (q33:R3) =>
 (Zw (q33.1 30) (.bool true) (q33.1 36)).bind fun v41 =>
 csel v41
 (some (.bool false,q33.2.1,q33.2.2+1))
 ((Zo 5 (q33.1 3)).bind fun v42 =>
 (ld false 1 v42 q33.2.1).bind fun v43 =>
 (Zr .plain .eql v43 (.int .i64 0)).bind fun v44 =>
 csel v44
 ((ld true 3 (q33.1 2) q33.2.1).bind fun v45 =>
 (Zo 1 (q33.1 3)).bind fun v46 =>
 (ld false 1 v46 q33.2.1).bind fun v47 =>
 (C 63 [v45,v47] q33.2.1 (q33.2.2+19)).bind fun q48 =>
 let t50:Tm:=put (put (put (put (put (put (put (put (put (put q33.1 37 v41) 38 v42) 39 v43) 41 v44) 40 v44) 42 v45) 43 v46) 44 v47) 45 q48.1) 46 q48.1
 (gsel q48.1 true
 ((Zo 6 (t50 3)).bind fun v51 =>
 (ld false 1 v51 q48.2.1).bind fun v52 =>
 (Zr .plain .eql v52 (.int .i64 0)).bind fun v53 =>
 some (put (put (put t50 47 v51) 48 v52) 49 v53,q48.2.1,q48.2.2))
 (some (put (put (put t50 47 (.tuple #[])) 48 (.tuple #[])) 49 (.tuple #[]),q48.2.1,q48.2.2))
 ).bind fun (q49:R3) =>
 (Zw (q49.1 46) (q49.1 49) (.bool false)).bind fun v54 =>
 let t56:Tm:=put (put q49.1 50 v54) 51 v54
 (gsel v54 true
 ((Zo 7 (t56 3)).bind fun v57 =>
 (ld false 1 v57 q49.2.1).bind fun v58 =>
 (Zr .plain .eql v58 (.int .i64 0)).bind fun v59 =>
 some (put (put (put t56 52 v57) 53 v58) 54 v59,q49.2.1,q49.2.2))
 (some (put (put (put t56 52 (.tuple #[])) 53 (.tuple #[])) 54 (.tuple #[]),q49.2.1,q49.2.2))
 ).bind fun (q55:R3) =>
 (Zw (q55.1 51) (q55.1 54) (.bool false)).bind fun v60 =>
 some (v60,q55.2.1,q55.2.2))
 ((Zr .plain .eql v43 (.int .i64 1)).bind fun v61 =>
 csel v61
 ((ld true 3 (q33.1 2) q33.2.1).bind fun v62 =>
 (Zo 1 (q33.1 3)).bind fun v63 =>
 (ld false 1 v63 q33.2.1).bind fun v64 =>
 (C 63 [v62,v64] q33.2.1 (q33.2.2+28)).bind fun q65 =>
 let t67:Tm:=put (put (put (put (put (put (put (put (put (put (put (put q33.1 37 v41) 38 v42) 39 v43) 41 v44) 40 v44) 57 v61) 56 v61) 58 v62) 59 v63) 60 v64) 61 q65.1) 62 q65.1
 (gsel q65.1 true
 ((Zo 6 (t67 3)).bind fun v68 =>
 (ld false 1 v68 q65.2.1).bind fun v69 =>
 (C 56 [v69,.int .i64 13,.int .i64 19] q65.2.1 (q65.2.2)).bind fun q70 =>
 some (put (put (put t67 63 v68) 64 v69) 65 q70.1,q70.2.1,q70.2.2))
 (some (put (put (put t67 63 (.tuple #[])) 64 (.tuple #[])) 65 (.tuple #[]),q65.2.1,q65.2.2))
 ).bind fun (q66:R3) =>
 (Zw (q66.1 62) (q66.1 65) (.bool false)).bind fun v71 =>
 let t73:Tm:=put (put q66.1 66 v71) 67 v71
 (gsel v71 true
 ((Zo 6 (t73 3)).bind fun v74 =>
 (ld false 1 v74 q66.2.1).bind fun v75 =>
 (Zr .plain .neq v75 (.int .i64 18)).bind fun v76 =>
 some (put (put (put t73 68 v74) 69 v75) 70 v76,q66.2.1,q66.2.2))
 (some (put (put (put t73 68 (.tuple #[])) 69 (.tuple #[])) 70 (.tuple #[]),q66.2.1,q66.2.2))
 ).bind fun (q72:R3) =>
 (Zw (q72.1 67) (q72.1 70) (.bool false)).bind fun v77 =>
 let t79:Tm:=put (put q72.1 71 v77) 72 v77
 (gsel v77 true
 ((Zo 0 (t79 3)).bind fun v80 =>
 (ld true 1 v80 q72.2.1).bind fun v81 =>
 (Zo 7 (t79 3)).bind fun v82 =>
 (ld false 1 v82 q72.2.1).bind fun v83 =>
 (C 45 [v81,v83] q72.2.1 (q72.2.2)).bind fun q84 =>
 some (put (put (put (put (put t79 73 v80) 74 v81) 75 v82) 76 v83) 77 q84.1,q84.2.1,q84.2.2))
 (some (put (put (put (put (put t79 73 (.tuple #[])) 74 (.tuple #[])) 75 (.tuple #[])) 76 (.tuple #[])) 77 (.tuple #[]),q72.2.1,q72.2.2))
 ).bind fun (q78:R3) =>
 (Zw (q78.1 72) (q78.1 77) (.bool false)).bind fun v85 =>
 some (v85,q78.2.1,q78.2.2))
 ((Zr .plain .eql v43 (.int .i64 2)).bind fun v86 =>
 csel v86
 ((Zo 1 (q33.1 3)).bind fun v87 =>
 (ld false 1 v87 q33.2.1).bind fun v88 =>
 (Zr .plain .eql v88 (.int .i64 0)).bind fun v89 =>
 let t91:Tm:=put (put (put (put (put (put (put (put (put (put (put (put (put q33.1 37 v41) 38 v42) 39 v43) 41 v44) 40 v44) 57 v61) 56 v61) 80 v86) 79 v86) 81 v87) 82 v88) 83 v89) 84 v89
 (gsel v89 true
 ((Zo 6 (t91 3)).bind fun v92 =>
 (ld false 1 v92 q33.2.1).bind fun v93 =>
 (Zr .plain .eql v93 (.int .i64 0)).bind fun v94 =>
 some (put (put (put t91 85 v92) 86 v93) 87 v94,q33.2.1,q33.2.2+24))
 (some (put (put (put t91 85 (.tuple #[])) 86 (.tuple #[])) 87 (.tuple #[]),q33.2.1,q33.2.2+24))
 ).bind fun (q90:R3) =>
 (Zw (q90.1 84) (q90.1 87) (.bool false)).bind fun v95 =>
 let t97:Tm:=put (put q90.1 88 v95) 89 v95
 (gsel v95 true
 ((Zo 0 (t97 3)).bind fun v98 =>
 (ld true 1 v98 q90.2.1).bind fun v99 =>
 (Zo 7 (t97 3)).bind fun v100 =>
 (ld false 1 v100 q90.2.1).bind fun v101 =>
 (C 45 [v99,v101] q90.2.1 (q90.2.2)).bind fun q102 =>
 some (put (put (put (put (put t97 90 v98) 91 v99) 92 v100) 93 v101) 94 q102.1,q102.2.1,q102.2.2))
 (some (put (put (put (put (put t97 90 (.tuple #[])) 91 (.tuple #[])) 92 (.tuple #[])) 93 (.tuple #[])) 94 (.tuple #[]),q90.2.1,q90.2.2))
 ).bind fun (q96:R3) =>
 (Zw (q96.1 89) (q96.1 94) (.bool false)).bind fun v103 =>
 some (v103,q96.2.1,q96.2.2))
 ((Zr .plain .eql v43 (.int .i64 3)).bind fun v104 =>
 csel v104
 ((Zo 1 (q33.1 3)).bind fun v105 =>
 (ld false 1 v105 q33.2.1).bind fun v106 =>
 (Zr .plain .eql v106 (.int .i64 0)).bind fun v107 =>
 let t109:Tm:=put (put (put (put (put (put (put (put (put (put (put (put (put (put (put q33.1 37 v41) 38 v42) 39 v43) 41 v44) 40 v44) 57 v61) 56 v61) 80 v86) 79 v86) 97 v104) 96 v104) 98 v105) 99 v106) 100 v107) 101 v107
 (gsel v107 true
 ((Zo 6 (t109 3)).bind fun v110 =>
 (ld false 1 v110 q33.2.1).bind fun v111 =>
 (C 56 [v111,.int .i64 1,.int .i64 7] q33.2.1 (q33.2.2+24)).bind fun q112 =>
 some (put (put (put t109 102 v110) 103 v111) 104 q112.1,q112.2.1,q112.2.2))
 (some (put (put (put t109 102 (.tuple #[])) 103 (.tuple #[])) 104 (.tuple #[]),q33.2.1,q33.2.2+24))
 ).bind fun (q108:R3) =>
 (Zw (q108.1 101) (q108.1 104) (.bool false)).bind fun v113 =>
 let t115:Tm:=put (put q108.1 105 v113) 106 v113
 (gsel v113 true
 ((Zo 7 (t115 3)).bind fun v116 =>
 (ld false 1 v116 q108.2.1).bind fun v117 =>
 (Zr .plain .eql v117 (.int .i64 0)).bind fun v118 =>
 some (put (put (put t115 107 v116) 108 v117) 109 v118,q108.2.1,q108.2.2))
 (some (put (put (put t115 107 (.tuple #[])) 108 (.tuple #[])) 109 (.tuple #[]),q108.2.1,q108.2.2))
 ).bind fun (q114:R3) =>
 (Zw (q114.1 106) (q114.1 109) (.bool false)).bind fun v119 =>
 some (v119,q114.2.1,q114.2.2))
 (some (.bool false,q33.2.1,q33.2.2+11))))))
theorem s22 (C:Zp) (L:Zs→Zs) (t:Tm) (H:Hp) (n:Nat):bodyK Try.prog C L Try.f22 t H n=S22 C L t H n:=by kernel_rfl
theorem c22 (args:List Value) (H:Hp) (n:Nat):Call Try.prog 22 args H n=S22 (Call Try.prog) Yf (Yg args) H n:=(Zu Try.func22 args H n).trans (s22 ..)
noncomputable def S33L0 (C:Zp) (L:Zs→Zs):Zs:=fun t H n =>
 (lenV false (t 0)).bind fun v4 =>
 (Zr .plain .lss (t 4) v4).bind fun v5 =>
 let t7:Tm:=put (put (put (put (put t 8 (t 4)) 9 (t 0)) 10 v4) 11 v5) 12 v5
 (gsel v5 true
 ((Zr .plain .lss (t7 4) (.int .i64 4000)).bind fun v8 =>
 some (put (put t7 13 (t7 4)) 14 v8,H,n+8))
 (some (put (put t7 13 (.tuple #[])) 14 (.tuple #[]),H,n+8))
 ).bind fun (q6:R3) =>
 (Zw (q6.1 12) (q6.1 14) (.bool false)).bind fun v9 =>
 csel v9
 ((Zr .plain .mul (q6.1 3) (.int .i64 131)).bind fun v10 =>
 (idxA 1 (q6.1 0) (q6.1 4)).bind fun v11 =>
 (ld false 1 v11 q6.2.1).bind fun v12 =>
 (conv (.toInt .i64) (q6.2.2+6) v12 q6.2.1).bind fun p13 =>
 (Zr .plain .add v10 p13.1).bind fun v14 =>
 (Zr .plain .add v14 (.int .i64 7)).bind fun v15 =>
 (Zr .plain .and v15 (.int .i64 1073741823)).bind fun v16 =>
 (Zr .plain .add (q6.1 4) (.int .i64 1)).bind fun v17 =>
 some ⟨.normal,put (put (put (put (put (put (put (put (put (put (put (put (put (put (put q6.1 15 v9) 18 (q6.1 3)) 19 v10) 20 (q6.1 0)) 21 (q6.1 4)) 22 v11) 23 v12) 24 p13.1) 25 v14) 26 v15) 27 v16) 3 v16) 16 (q6.1 4)) 17 v17) 4 v17,p13.2,q6.2.2+14⟩)
 (some ⟨(.exit 0),put q6.1 15 v9,q6.2.1,q6.2.2⟩)
noncomputable def S33 (C:Zp) (L:Zs→Zs) (t:Tm) (H:Hp) (n:Nat):Option (Value × Hp × Nat) :=
 (lenV false (t 0)).bind fun v1 =>
 (Zr .plain .add (.int .i64 17000) v1).bind fun v2 =>
 (L (S33L0 C L) (put (put (put (put (put (put t 2 (.pointer none)) 5 (t 0)) 6 v1) 7 v2) 3 v2) 4 (.int .i64 0)) H (n+6)).bind fun (o3:Out) =>
 (bld [nilS,.int .i64 0,.int .i64 0] [(0,1,o3.t 0),(2,1,o3.t 3)]).bind fun v18 =>
 (vcells v18).bind fun c20 =>
 let H19:=o3.H.set (o3.n+3) (some (.row c20 0 true))
 some (ptr (o3.n+3) 0,H19,o3.n+5)
theorem s33 (C:Zp) (L:Zs→Zs) (t:Tm) (H:Hp) (n:Nat):bodyK Try.prog C L Try.f33 t H n=S33 C L t H n:=by kernel_rfl
theorem c33 (args:List Value) (H:Hp) (n:Nat):Call Try.prog 33 args H n=S33 (Call Try.prog) Yf (Yg args) H n:=(Zu Try.func33 args H n).trans (s33 ..)
noncomputable def S34 (C:Zp) (L:Zs→Zs) (t:Tm) (H:Hp) (n:Nat):Option (Value × Hp × Nat) :=
 (C 35 [t 0,.int .i64 4] H (n+4)).bind fun q1 =>
 (un .not q1.1).bind fun v2 =>
 csel v2
 ((C 77 [] q1.2.1 (q1.2.2+4)).bind fun q3 =>
 (C 58 [t 0,q3.1] q3.2.1 (q3.2.2)).bind fun q4 =>
 some (q4.1,q4.2.1,q4.2.2))
 ((C 78 [t 0,.int .i64 3] q1.2.1 (q1.2.2+3)).bind fun q5 =>
 some (q5.1,q5.2.1,q5.2.2))
theorem s34 (C:Zp) (L:Zs→Zs) (t:Tm) (H:Hp) (n:Nat):bodyK Try.prog C L Try.f34 t H n=S34 C L t H n:=by kernel_rfl
theorem c34 (args:List Value) (H:Hp) (n:Nat):Call Try.prog 34 args H n=S34 (Call Try.prog) Yf (Yg args) H n:=(Zu Try.func34 args H n).trans (s34 ..)
noncomputable def S35 (C:Zp) (L:Zs→Zs) (t:Tm) (H:Hp) (n:Nat):Option (Value × Hp × Nat) :=
 (C 38 [t 0,t 1] H (n+6)).bind fun q1 =>
 (Zr .plain .eql q1.1 (.int .i64 0)).bind fun v2 =>
 some (v2,q1.2.1,q1.2.2)
theorem s35 (C:Zp) (L:Zs→Zs) (t:Tm) (H:Hp) (n:Nat):bodyK Try.prog C L Try.f35 t H n=S35 C L t H n:=by kernel_rfl
theorem c35 (args:List Value) (H:Hp) (n:Nat):Call Try.prog 35 args H n=S35 (Call Try.prog) Yf (Yg args) H n:=(Zu Try.func35 args H n).trans (s35 ..)
noncomputable def S37L1 (C:Zp) (L:Zs→Zs):Zs:=fun t H n =>
 (lenV true (t 1)).bind fun v65 =>
 (Zr .plain .lss (t 11) v65).bind fun v66 =>
 let t68:Tm:=put (put (put (put (put t 103 (t 11)) 104 (t 1)) 105 v65) 106 v66) 107 v66
 (gsel v66 true
 ((idxS (t68 1) (t68 11)).bind fun v69 =>
 (C 81 [v69] H (n+10)).bind fun q70 =>
 some (put (put (put (put t68 108 (t68 1)) 109 (t68 11)) 110 v69) 111 q70.1,q70.2.1,q70.2.2))
 (some (put (put (put (put t68 108 (.tuple #[])) 109 (.tuple #[])) 110 (.tuple #[])) 111 (.tuple #[]),H,n+10))
 ).bind fun (q67:R3) =>
 (Zw (q67.1 107) (q67.1 111) (.bool false)).bind fun v71 =>
 csel v71
 ((Zr .plain .add (q67.1 11) (.int .i64 1)).bind fun v72 =>
 some ⟨.normal,put (put (put (put q67.1 112 v71) 113 (q67.1 11)) 114 v72) 11 v72,q67.2.1,q67.2.2+3⟩)
 (some ⟨(.exit 4),put q67.1 112 v71,q67.2.1,q67.2.2⟩)
noncomputable def S37L0 (C:Zp) (L:Zs→Zs):Zs:=fun t H n =>
 (lenV true (t 1)).bind fun v24 =>
 (Zr .plain .lss (t 11) v24).bind fun v25 =>
 csel v25
 ((lenV false (t 10)).bind fun v26 =>
 (Zr .plain .sub v26 (.int .i64 1)).bind fun v27 =>
 (idxS (t 1) (t 11)).bind fun v28 =>
 (Zr .plain .eql v28 (.int .u8 32)).bind fun v29 =>
 let t31:Tm:=put (put (put (put (put (put (put (put (put (put (put (put (put (put (put t 36 (t 11)) 37 (t 1)) 38 v24) 39 v25) 40 (t 10)) 41 v26) 42 v27) 12 v27) 43 (t 1)) 44 (t 11)) 45 v28) 13 v28) 51 v28) 52 v29) 50 v29
 (csel v29
 ((Zr .plain .add (t31 11) (.int .i64 1)).bind fun v32 =>
 some ⟨.normal,put (put (put t31 53 (t31 11)) 54 v32) 11 v32,H,n+18⟩)
 ((Zr .plain .eql v28 (.int .u8 40)).bind fun v33 =>
 let t35:Tm:=put (put (put t31 56 v28) 57 v33) 55 v33
 (csel v33
 ((bld [.int .i64 0,nilS] [(0,1,t35 11)]).bind fun v36 =>
 (bsl (n+21) 2 1 [.int .i64 0,nilS] [(0,2,v36)] H).bind fun p37 =>
 (app (n+22) 2 32 (t35 10) p37.1 p37.2).bind fun p38 =>
 (Zr .plain .add (t35 11) (.int .i64 1)).bind fun v39 =>
 some ⟨.normal,put (put (put (put (put (put (put (put (put t35 58 (t35 10)) 59 (t35 11)) 60 v36) 61 p37.1) 62 p38.1) 10 p38.1) 63 (t35 11)) 64 v39) 11 v39,p38.2,n+27⟩)
 ((Zr .plain .eql v28 (.int .u8 41)).bind fun v40 =>
 let t42:Tm:=put (put (put t35 66 v28) 67 v40) 65 v40
 (csel v40
 ((Zr .plain .eql v27 (.int .i64 0)).bind fun v43 =>
 csel v43
 ((ld true 1 (t42 2) H).bind fun v44 =>
 (C 50 [v44] H (n+31)).bind fun q45 =>
 (st true 1 (t42 4) q45.1 q45.2.1).bind fun H46 =>
 some ⟨.ret,put (put (put (put (put (put (put (put (put t42 68 v27) 69 v43) 70 v44) 71 q45.1) 72 (t42 8)) 73 (t42 11)) 5 (t42 8)) 6 (.int .i64 5)) 7 (t42 11),H46,q45.2.2⟩)
 ((idxA 2 (t42 10) v27).bind fun v47 =>
 (Zo 1 v47).bind fun v48 =>
 (ld false 1 v48 H).bind fun v49 =>
 (C 80 [t42 9,v49] H (n+30)).bind fun q50 =>
 (sliceV 2 (t42 10) none (some v27)).bind fun v51 =>
 (Zr .plain .sub v27 (.int .i64 1)).bind fun v52 =>
 (Zr .plain .sub v27 (.int .i64 1)).bind fun v53 =>
 (idxA 2 v51 v53).bind fun v54 =>
 (Zo 1 v54).bind fun v55 =>
 (ld false 1 v55 q50.2.1).bind fun v56 =>
 (bsl (q50.2.2+14) 1 1 [.int .i64 0] [(0,1,q50.1)] q50.2.1).bind fun p57 =>
 (app (q50.2.2+15) 1 8 v56 p57.1 p57.2).bind fun p58 =>
 (idxA 2 v51 v52).bind fun v59 =>
 (Zo 1 v59).bind fun v60 =>
 (st false 1 v60 p58.1 p58.2).bind fun H61 =>
 (Zr .plain .add (t42 11) (.int .i64 1)).bind fun v62 =>
 some ⟨.normal,put (put (put (put (put (put (put (put (put (put (put (put (put (put (put (put (put (put (put (put (put (put (put (put (put (put (put (put (put (put t42 68 v27) 69 v43) 74 (t42 10)) 75 v27) 76 v47) 77 v48) 78 v49) 79 q50.1) 14 q50.1) 80 (t42 10)) 81 v27) 82 v51) 10 v51) 83 v51) 84 v27) 85 v52) 86 v51) 87 v27) 88 v53) 89 v54) 90 v55) 91 v56) 92 q50.1) 93 p57.1) 94 p58.1) 95 v59) 96 v60) 97 (t42 11)) 98 v62) 11 v62,H61,q50.2.2+22⟩))
 ((C 81 [v28] H (n+24)).bind fun q63 =>
 csel q63.1
 ((L (S37L1 C L) (put (put (put (put (put t42 100 v28) 101 q63.1) 99 q63.1) 102 (t42 11)) 15 (t42 11)) q63.2.1 (q63.2.2+2)).bind fun (o64:Out) =>
 (sliceV 0 (o64.t 1) (some (o64.t 15)) (some (o64.t 11))).bind fun v73 =>
 (C 82 [v73] o64.H (o64.n+11)).bind fun q74 =>
 (ext 0 q74.1).bind fun v75 =>
 (ext 1 q74.1).bind fun v76 =>
 let H77:=q74.2.1.set (o64.n+8) (some (.row [.int .i64 0,.int .i64 0,.string ⟨#[]⟩,.int .i64 0,.int .i64 0] 0 true))
 (st true 5 (ptr (o64.n+8) 0) v75 H77).bind fun H78 =>
 (un .not v76).bind fun v79 =>
 csel v79
 ((ld true 1 (o64.t 2) H78).bind fun v80 =>
 (C 50 [v80] H78 (q74.2.2+10)).bind fun q81 =>
 (st true 1 (o64.t 4) q81.1 q81.2.1).bind fun H82 =>
 some ⟨.ret,put (put (put (put (put (put (put (put (put (put (put (put (put (put (put (put (put (put (put o64.t 116 (o64.t 1)) 117 (o64.t 15)) 118 (o64.t 11)) 119 v73) 120 q74.1) 115 q74.1) 121 v75) 122 v76) 16 (ptr (o64.n+8) 0)) 17 v76) 123 v76) 124 v79) 125 v80) 126 q81.1) 127 (o64.t 8)) 128 (o64.t 15)) 5 (o64.t 8)) 6 (.int .i64 3)) 7 (o64.t 15),H82,q81.2.2⟩)
 ((idxA 2 (o64.t 10) (o64.t 12)).bind fun v83 =>
 (Zo 1 v83).bind fun v84 =>
 (ld false 1 v84 H78).bind fun v85 =>
 (ld true 5 (ptr (o64.n+8) 0) H78).bind fun v86 =>
 (C 41 [o64.t 9,v86] H78 (q74.2.2+16)).bind fun q87 =>
 ask (ld false 1 v84 q87.2.1=some v85) <|
 (bsl (q74.2.2+11) 1 1 [.int .i64 0] [(0,1,q87.1)] q87.2.1).bind fun p88 =>
 (app (q74.2.2+12) 1 8 v85 p88.1 p88.2).bind fun p89 =>
 (idxA 2 (o64.t 10) (o64.t 12)).bind fun v90 =>
 (Zo 1 v90).bind fun v91 =>
 (st false 1 v91 p89.1 p89.2).bind fun H92 =>
 some ⟨.normal,put (put (put (put (put (put (put (put (put (put (put (put (put (put (put (put (put (put (put (put (put (put (put (put (put o64.t 116 (o64.t 1)) 117 (o64.t 15)) 118 (o64.t 11)) 119 v73) 120 q74.1) 115 q74.1) 121 v75) 122 v76) 16 (ptr (o64.n+8) 0)) 17 v76) 123 v76) 124 v79) 129 (o64.t 10)) 130 (o64.t 12)) 131 (o64.t 10)) 132 (o64.t 12)) 133 v83) 134 v84) 135 v85) 136 v86) 137 q87.1) 138 p88.1) 139 p89.1) 140 v90) 141 v91,H92,q87.2.2⟩))
 ((ld true 1 (t42 2) q63.2.1).bind fun v93 =>
 (C 50 [v93] q63.2.1 (q63.2.2+8)).bind fun q94 =>
 (st true 1 (t42 4) q94.1 q94.2.1).bind fun H95 =>
 some ⟨.ret,put (put (put (put (put (put (put (put (put (put t42 100 v28) 101 q63.1) 99 q63.1) 46 v93) 47 q94.1) 48 (t42 8)) 49 (t42 11)) 5 (t42 8)) 6 (.int .i64 2)) 7 (t42 11),H95,q94.2.2⟩))
 ).bind fun (o41:Out) =>
 some o41)
 ).bind fun (o34:Out) =>
 some o34)
 ).bind fun (o30:Out) =>
 let o96:=outOf 3 o30
 let o97:=outOf 2 o96
 some o97)
 (some ⟨(.exit 1),put (put (put (put t 36 (t 11)) 37 (t 1)) 38 v24) 39 v25,H,n+4⟩)
noncomputable def S37 (C:Zp) (L:Zs→Zs) (t:Tm) (H:Hp) (n:Nat):Option (Value × Hp × Nat) :=
 (vcells (t 0)).bind fun c2 =>
 let H1:=H.set (n) (some (.row c2 0 true))
 let H3:=H1.set (n+1) (some (.row [nilS] 0 true))
 (bsl (n+5) 1 0 [.int .i64 0] [] H3).bind fun p4 =>
 (ld true 1 (ptr (n) 0) p4.2).bind fun v5 =>
 (C 48 [v5] p4.2 (n+11)).bind fun q6 =>
 (un .not q6.1).bind fun v7 =>
 csel v7
 ((bld [nilS] []).bind fun v8 =>
 (st true 1 (ptr (n+1) 0) v8 q6.2.1).bind fun H9 =>
 (ld true 1 (ptr (n+1) 0) H9).bind fun v10 =>
 iteK ([v10,p4.1,.int .i64 6,.int .i64 0].all notTup) <|
 some (.tuple ⟨[v10,p4.1,.int .i64 6,.int .i64 0]⟩,H9,q6.2.2+6))
 ((lenV true (t 1)).bind fun v11 =>
 (Zr .plain .gtr v11 (.int .i64 400)).bind fun v12 =>
 csel v12
 ((ld true 1 (ptr (n) 0) q6.2.1).bind fun v13 =>
 (C 50 [v13] q6.2.1 (q6.2.2+11)).bind fun q14 =>
 (st true 1 (ptr (n+1) 0) q14.1 q14.2.1).bind fun H15 =>
 (ld true 1 (ptr (n+1) 0) H15).bind fun v16 =>
 iteK ([v16,p4.1,.int .i64 1,.int .i64 0].all notTup) <|
 some (.tuple ⟨[v16,p4.1,.int .i64 1,.int .i64 0]⟩,H15,q14.2.2))
 ((ld true 1 (ptr (n) 0) q6.2.1).bind fun v17 =>
 (C 50 [v17] q6.2.1 (q6.2.2+8)).bind fun q18 =>
 let H19:=q18.2.1.set (q6.2.2+6) (some (.row [nilS] 0 true))
 (st true 1 (ptr (q6.2.2+6) 0) q18.1 H19).bind fun H20 =>
 (bld [.int .i64 0,nilS] []).bind fun v21 =>
 (bsl (q18.2.2+1) 2 1 [.int .i64 0,nilS] [(0,2,v21)] H20).bind fun p22 =>
 (L (S37L0 C L) (put (put (put (put (put (put (put (put (put (put (put (put (put (put (put (put (put (put (put (put (put (put t 2 (ptr (n) 0)) 4 (ptr (n+1) 0)) 5 nilS) 6 (.int .i64 0)) 7 (.int .i64 0)) 18 p4.1) 8 p4.1) 20 v5) 21 q6.1) 22 v7) 19 v7) 26 (t 1)) 27 v11) 28 v12) 25 v12) 32 v17) 33 q18.1) 9 (ptr (q6.2.2+6) 0)) 34 v21) 35 p22.1) 10 p22.1) 11 (.int .i64 0)) p22.2 (q18.2.2+4)).bind fun (o23:Out) =>
 let o98:=outOf 1 o23
 thenK o98
 ((lenV false (o98.t 10)).bind fun v99 =>
 (Zr .plain .gtr v99 (.int .i64 1)).bind fun v100 =>
 csel v100
 ((ld true 1 (o98.t 2) o98.H).bind fun v101 =>
 (C 50 [v101] o98.H (o98.n+17)).bind fun q102 =>
 (lenV false (o98.t 10)).bind fun v103 =>
 (Zr .plain .sub v103 (.int .i64 1)).bind fun v104 =>
 (idxA 2 (o98.t 10) v104).bind fun v105 =>
 (Zo 0 v105).bind fun v106 =>
 (ld false 1 v106 q102.2.1).bind fun v107 =>
 ask (ld false 1 v106 o98.H=some v107) <|
 (st true 1 (o98.t 4) q102.1 q102.2.1).bind fun H108 =>
 ask (ld false 1 v106 H108=some v107) <|
 (ld true 1 (o98.t 4) H108).bind fun v109 =>
 iteK ([v109,o98.t 8,.int .i64 4,v107].all notTup) <|
 some (.tuple ⟨[v109,o98.t 8,.int .i64 4,v107]⟩,H108,q102.2.2))
 ((ld true 1 (o98.t 9) o98.H).bind fun v110 =>
 (C 48 [v110] o98.H (o98.n+6)).bind fun q111 =>
 (un .not q111.1).bind fun v112 =>
 csel v112
 ((ld true 1 (o98.t 2) q111.2.1).bind fun v113 =>
 (C 50 [v113] q111.2.1 (q111.2.2+7)).bind fun q114 =>
 (st true 1 (o98.t 4) q114.1 q114.2.1).bind fun H115 =>
 (ld true 1 (o98.t 4) H115).bind fun v116 =>
 iteK ([v116,o98.t 8,.int .i64 6,.int .i64 0].all notTup) <|
 some (.tuple ⟨[v116,o98.t 8,.int .i64 6,.int .i64 0]⟩,H115,q114.2.2))
 ((ld true 1 (o98.t 9) q111.2.1).bind fun v117 =>
 (bsl (q111.2.2+1) 1 0 [.int .i64 0] [] q111.2.1).bind fun p118 =>
 (idxA 2 (o98.t 10) (.int .i64 0)).bind fun v119 =>
 (Zo 1 v119).bind fun v120 =>
 (ld false 1 v120 p118.2).bind fun v121 =>
 (app (q111.2.2+6) 1 8 p118.1 v121 p118.2).bind fun p122 =>
 ask (ld true 1 (o98.t 9) p122.2=some v117) <|
 (lenV true (o98.t 1)).bind fun v123 =>
 (st true 1 (o98.t 4) v117 p122.2).bind fun H124 =>
 (ld true 1 (o98.t 4) H124).bind fun v125 =>
 iteK ([v125,p122.1,.int .i64 0,v123].all notTup) <|
 some (.tuple ⟨[v125,p122.1,.int .i64 0,v123]⟩,H124,q111.2.2+13))))
 (finE o98.e
 ((ld true 1 (o98.t 4) o98.H).bind fun v126 =>
 iteK ([v126,o98.t 5,o98.t 6,o98.t 7].all notTup) <|
 some (.tuple ⟨[v126,o98.t 5,o98.t 6,o98.t 7]⟩,o98.H,o98.n)))))
theorem s37 (C:Zp) (L:Zs→Zs) (t:Tm) (H:Hp) (n:Nat):bodyK Try.prog C L Try.f37 t H n=S37 C L t H n:=by kernel_rfl
theorem c37 (args:List Value) (H:Hp) (n:Nat):Call Try.prog 37 args H n=S37 (Call Try.prog) Yf (Yg args) H n:=(Zu Try.func37 args H n).trans (s37 ..)
noncomputable def S38 (C:Zp) (L:Zs→Zs) (t:Tm) (H:Hp) (n:Nat):Option (Value × Hp × Nat) :=
 (Zr .plain .leq (t 1) (.int .i64 0)).bind fun v1 =>
 csel v1
 (some (.int .i64 0,H,n+4))
 ((Zr .plain .leq (t 1) (.int .i64 256)).bind fun v2 =>
 csel v2
 ((C 83 [t 0] H (n+10)).bind fun q3 =>
 (Zr .plain .rem q3.1 (t 1)).bind fun v4 =>
 some (v4,q3.2.1,q3.2.2))
 ((C 83 [t 0] H (n+8)).bind fun q5 =>
 (C 83 [t 0] q5.2.1 (q5.2.2+3)).bind fun q6 =>
 (C 83 [t 0] q6.2.1 (q6.2.2+3)).bind fun q7 =>
 (C 83 [t 0] q7.2.1 (q7.2.2+3)).bind fun q8 =>
 (Zr .plain .mul q5.1 (.int .i64 16777216)).bind fun v9 =>
 (Zr .plain .mul q6.1 (.int .i64 65536)).bind fun v10 =>
 (Zr .plain .add v9 v10).bind fun v11 =>
 (Zr .plain .mul q7.1 (.int .i64 256)).bind fun v12 =>
 (Zr .plain .add v11 v12).bind fun v13 =>
 (Zr .plain .add v13 q8.1).bind fun v14 =>
 (Zr .plain .rem v14 (t 1)).bind fun v15 =>
 some (v15,q8.2.1,q8.2.2+13)))
theorem s38 (C:Zp) (L:Zs→Zs) (t:Tm) (H:Hp) (n:Nat):bodyK Try.prog C L Try.f38 t H n=S38 C L t H n:=by kernel_rfl
theorem c38 (args:List Value) (H:Hp) (n:Nat):Call Try.prog 38 args H n=S38 (Call Try.prog) Yf (Yg args) H n:=(Zu Try.func38 args H n).trans (s38 ..)
noncomputable def S39L0 (C:Zp) (L:Zs→Zs):Zs:=fun t H n =>
 (Zo 0 (t 3)).bind fun v37 =>
 (ld false 1 v37 H).bind fun v38 =>
 (lenV false v38).bind fun v39 =>
 (Zr .plain .lss (t 5) v39).bind fun v40 =>
 csel v40
 ((Zo 0 (t 3)).bind fun v41 =>
 (ld false 1 v41 H).bind fun v42 =>
 (idxA 5 v42 (t 5)).bind fun v43 =>
 (Zo 0 v43).bind fun v44 =>
 (st false 1 v44 (.int .i64 1) H).bind fun H45 =>
 (Zr .plain .add (t 5) (.int .i64 1)).bind fun v46 =>
 some ⟨.normal,put (put (put (put (put (put (put (put (put (put (put (put (put t 39 (t 5)) 40 v37) 41 v38) 42 v39) 43 v40) 46 v41) 47 v42) 48 (t 5)) 49 v43) 50 v44) 44 (t 5)) 45 v46) 5 v46,H45,n+14⟩)
 (some ⟨(.exit 0),put (put (put (put (put t 39 (t 5)) 40 v37) 41 v38) 42 v39) 43 v40,H,n+5⟩)
noncomputable def S39 (C:Zp) (L:Zs→Zs) (t:Tm) (H:Hp) (n:Nat):Option (Value × Hp × Nat) :=
 let H1:=H.set (n) (some (.row [nilS] 0 true))
 (C 84 [t 0] H1 (n+5)).bind fun q2 =>
 let H3:=q2.2.1.set (n+3) (some (.row [nilS] 0 true))
 (st true 1 (ptr (n+3) 0) q2.1 H3).bind fun H4 =>
 (Zo 0 (ptr (n+3) 0)).bind fun v5 =>
 (ld false 1 v5 H4).bind fun v6 =>
 (lenV false v6).bind fun v7 =>
 (Zr .plain .gtr v7 (.int .i64 0)).bind fun v8 =>
 let t10:Tm:=put (put (put (put (put (put (put (put (put t 2 (ptr (n) 0)) 6 (t 0)) 7 q2.1) 3 (ptr (n+3) 0)) 8 v5) 9 v6) 10 v7) 11 v8) 12 v8
 (gsel v8 true
 ((C 35 [t10 0,.int .i64 12] H4 (q2.2.2+8)).bind fun q11 =>
 some (put (put t10 13 (t10 0)) 14 q11.1,q11.2.1,q11.2.2))
 (some (put (put t10 13 (.tuple #[])) 14 (.tuple #[]),H4,q2.2.2+8))
 ).bind fun (q9:R3) =>
 (Zw (q9.1 12) (q9.1 14) (.bool false)).bind fun v12 =>
 let t14:Tm:=put q9.1 15 v12
 (csel v12
 ((Zo 0 (t14 3)).bind fun v15 =>
 (ld false 1 v15 q9.2.1).bind fun v16 =>
 (lenV false v16).bind fun v17 =>
 (C 38 [t14 0,v17] q9.2.1 (q9.2.2+6)).bind fun q18 =>
 (Zo 0 (t14 3)).bind fun v19 =>
 (ld false 1 v19 q18.2.1).bind fun v20 =>
 (Zo 0 (t14 3)).bind fun v21 =>
 (ld false 1 v21 q18.2.1).bind fun v22 =>
 (idxA 5 v22 q18.1).bind fun v23 =>
 (ld true 5 v23 q18.2.1).bind fun v24 =>
 (C 85 [t14 0,v24] q18.2.1 (q18.2.2+12)).bind fun q25 =>
 ask (ld false 1 v19 q25.2.1=some v20) <|
 (idxA 5 v20 q18.1).bind fun v26 =>
 (st true 5 v26 q25.1 q25.2.1).bind fun H27 =>
 some ⟨.normal,put (put (put (put (put (put (put (put (put (put (put (put (put (put (put (put (put t14 16 (t14 0)) 17 v15) 18 v16) 19 v17) 20 q18.1) 4 q18.1) 21 v19) 22 v20) 23 q18.1) 24 (t14 0)) 25 v21) 26 v22) 27 q18.1) 28 v23) 29 v24) 30 q25.1) 31 v26,H27,q25.2.2⟩)
 (some ⟨.normal,t14,q9.2.1,q9.2.2⟩)
 ).bind fun (o13:Out) =>
 (C 35 [o13.t 0,.int .i64 60] o13.H (o13.n+2)).bind fun q28 =>
 let t30:Tm:=put (put o13.t 32 (o13.t 0)) 33 q28.1
 (csel q28.1
 ((C 38 [t30 0,.int .i64 2] q28.2.1 (q28.2.2+6)).bind fun q31 =>
 (Zr .plain .add (.int .i64 3000) q31.1).bind fun v32 =>
 (mks (q28.2.2+3) 5 48 [.int .i64 0,.int .i64 0,.string ⟨#[]⟩,.int .i64 0,.int .i64 0] v32 v32 q31.2.1).bind fun p33 =>
 (Zo 0 (t30 3)).bind fun v34 =>
 (st false 1 v34 p33.1 p33.2).bind fun H35 =>
 (L (S39L0 C L) (put (put (put (put (put (put t30 34 (t30 0)) 35 q31.1) 36 v32) 37 p33.1) 38 v34) 5 (.int .i64 0)) H35 (q31.2.2+1)).bind fun (o36:Out) =>
 some ⟨.normal,o36.t,o36.H,o36.n⟩)
 (some ⟨.normal,t30,q28.2.1,q28.2.2⟩)
 ).bind fun (o29:Out) =>
 (ld true 1 (o29.t 3) o29.H).bind fun v47 =>
 (st true 1 (o29.t 2) v47 o29.H).bind fun H48 =>
 (ld true 1 (o29.t 2) H48).bind fun v49 =>
 some (v49,H48,o29.n+2)
theorem s39 (C:Zp) (L:Zs→Zs) (t:Tm) (H:Hp) (n:Nat):bodyK Try.prog C L Try.f39 t H n=S39 C L t H n:=by kernel_rfl
theorem c39 (args:List Value) (H:Hp) (n:Nat):Call Try.prog 39 args H n=S39 (Call Try.prog) Yf (Yg args) H n:=(Zu Try.func39 args H n).trans (s39 ..)
noncomputable def S40 (C:Zp) (L:Zs→Zs) (t:Tm) (H:Hp) (n:Nat):Option (Value × Hp × Nat) :=
 (vcells (t 1)).bind fun c2 =>
 let H1:=H.set (n) (some (.row c2 0 true))
 (Zo 0 (ptr (n) 0)).bind fun v3 =>
 (ld false 1 v3 H1).bind fun v4 =>
 (lenV false v4).bind fun v5 =>
 (Zr .plain .eql v5 (.int .i64 0)).bind fun v6 =>
 let t8:Tm:=put (put (put (put (put (put (put t 3 (ptr (n) 0)) 4 (.int .i64 0)) 5 v3) 6 v4) 7 v5) 8 v6) 9 v6
 (gsel v6 false
 ((C 35 [t8 0,.int .i64 20] H1 (n+10)).bind fun q9 =>
 some (put (put t8 10 (t8 0)) 11 q9.1,q9.2.1,q9.2.2))
 (some (put (put t8 10 (.tuple #[])) 11 (.tuple #[]),H1,n+10))
 ).bind fun (q7:R3) =>
 (Zw (q7.1 9) (.bool true) (q7.1 11)).bind fun v10 =>
 csel v10
 ((Zo 0 (q7.1 3)).bind fun v11 =>
 (ld false 1 v11 q7.2.1).bind fun v12 =>
 (lenV false v12).bind fun v13 =>
 (bsl (q7.2.2+4) 1 3 [.int .i64 0] [(0,1,.int .i64 (-1)),(1,1,.int .i64 0),(2,1,v13)] q7.2.1).bind fun p14 =>
 (C 62 [q7.1 0,p14.1] p14.2 (q7.2.2+7)).bind fun q15 =>
 some (q15.1,q15.2.1,q15.2.2))
 ((Zo 0 (q7.1 3)).bind fun v16 =>
 (ld false 1 v16 q7.2.1).bind fun v17 =>
 (lenV false v17).bind fun v18 =>
 (Zr .plain .sub v18 (.int .i64 1)).bind fun v19 =>
 (Zo 0 (q7.1 3)).bind fun v20 =>
 (ld false 1 v20 q7.2.1).bind fun v21 =>
 (lenV false v21).bind fun v22 =>
 (C 79 [v22,.int .i64 9] q7.2.1 (q7.2.2+12)).bind fun q23 =>
 ask (ld false 1 v16 q23.2.1=some v17) <|
 (C 38 [q7.1 0,q23.1] q23.2.1 (q23.2.2)).bind fun q24 =>
 ask (ld false 1 v16 q24.2.1=some v17) <|
 (Zr .plain .sub v19 q24.1).bind fun v25 =>
 some (v25,q24.2.1,q24.2.2))
theorem s40 (C:Zp) (L:Zs→Zs) (t:Tm) (H:Hp) (n:Nat):bodyK Try.prog C L Try.f40 t H n=S40 C L t H n:=by kernel_rfl
theorem c40 (args:List Value) (H:Hp) (n:Nat):Call Try.prog 40 args H n=S40 (Call Try.prog) Yf (Yg args) H n:=(Zu Try.func40 args H n).trans (s40 ..)
noncomputable def S41 (C:Zp) (L:Zs→Zs) (t:Tm) (H:Hp) (n:Nat):Option (Value × Hp × Nat) :=
 (vcells (t 1)).bind fun c2 =>
 let H1:=H.set (n) (some (.row c2 0 true))
 (Ye (t 0)).bind fun v3 =>
 (Zo 0 v3).bind fun v4 =>
 (ld false 1 v4 H1).bind fun v5 =>
 (ld true 5 (ptr (n) 0) H1).bind fun v6 =>
 (bsl (n+8) 5 1 [.int .i64 0,.int .i64 0,.string ⟨#[]⟩,.int .i64 0,.int .i64 0] [(0,5,v6)] H1).bind fun p7 =>
 (app (n+9) 5 48 v5 p7.1 p7.2).bind fun p8 =>
 (Ye (t 0)).bind fun v9 =>
 (Zo 0 v9).bind fun v10 =>
 (st false 1 v10 p8.1 p8.2).bind fun H11 =>
 (Ye (t 0)).bind fun v12 =>
 (Zo 0 v12).bind fun v13 =>
 (ld false 1 v13 H11).bind fun v14 =>
 (lenV false v14).bind fun v15 =>
 (Zr .plain .sub v15 (.int .i64 1)).bind fun v16 =>
 some (v16,H11,n+20)
theorem s41 (C:Zp) (L:Zs→Zs) (t:Tm) (H:Hp) (n:Nat):bodyK Try.prog C L Try.f41 t H n=S41 C L t H n:=by kernel_rfl
theorem c41 (args:List Value) (H:Hp) (n:Nat):Call Try.prog 41 args H n=S41 (Call Try.prog) Yf (Yg args) H n:=(Zu Try.func41 args H n).trans (s41 ..)
noncomputable def S42L0 (C:Zp) (L:Zs→Zs):Zs:=fun t H n =>
 (Zr .plain .lss (t 8) (t 7)).bind fun v7 =>
 csel v7
 ((idxA 5 (t 6) (t 8)).bind fun v8 =>
 (ld true 5 v8 H).bind fun v9 =>
 let H10:=H.set (n+4) (some (.row [.int .i64 0,.int .i64 0,.string ⟨#[]⟩,.int .i64 0,.int .i64 0] 0 true))
 (st true 5 (ptr (n+4) 0) v9 H10).bind fun H11 =>
 (ld true 5 (ptr (n+4) 0) H11).bind fun v12 =>
 (C 86 [v12,t 8] H11 (n+11)).bind fun q13 =>
 (un .not q13.1).bind fun v14 =>
 csel v14
 (some ⟨.ret,put (put (put (put (put (put (put (put (put (put (put t 9 v7) 10 (t 8)) 11 v8) 12 v9) 4 (ptr (n+4) 0)) 3 (t 8)) 13 v12) 14 (t 8)) 15 q13.1) 16 v14) 2 (.bool false),q13.2.1,q13.2.2+1⟩)
 ((Zr .plain .add (t 8) (.int .i64 1)).bind fun v15 =>
 some ⟨.normal,put (put (put (put (put (put (put (put (put (put (put (put t 9 v7) 10 (t 8)) 11 v8) 12 v9) 4 (ptr (n+4) 0)) 3 (t 8)) 13 v12) 14 (t 8)) 15 q13.1) 16 v14) 17 v15) 8 v15,q13.2.1,q13.2.2+2⟩))
 (some ⟨(.exit 0),put t 9 v7,H,n+1⟩)
noncomputable def S42 (C:Zp) (L:Zs→Zs) (t:Tm) (H:Hp) (n:Nat):Option (Value × Hp × Nat) :=
 (vcells (t 0)).bind fun c2 =>
 let H1:=H.set (n) (some (.row c2 0 true))
 (Zo 0 (ptr (n) 0)).bind fun v3 =>
 (ld false 1 v3 H1).bind fun v4 =>
 (lenV false v4).bind fun v5 =>
 (L (S42L0 C L) (put (put (put (put (put (put t 1 (ptr (n) 0)) 2 (.bool false)) 5 v3) 6 v4) 7 v5) 8 (.int .i64 0)) H1 (n+6)).bind fun (o6:Out) =>
 let o16:=outOf 0 o6
 thenK o16
 ((Zo 0 (o16.t 1)).bind fun v17 =>
 (ld false 1 v17 o16.H).bind fun v18 =>
 (lenV false v18).bind fun v19 =>
 (Zr .plain .leq v19 (.int .i64 3000)).bind fun v20 =>
 some (v20,o16.H,o16.n+5))
 (finE o16.e
 (some (o16.t 2,o16.H,o16.n)))
theorem s42 (C:Zp) (L:Zs→Zs) (t:Tm) (H:Hp) (n:Nat):bodyK Try.prog C L Try.f42 t H n=S42 C L t H n:=by kernel_rfl
theorem c42 (args:List Value) (H:Hp) (n:Nat):Call Try.prog 42 args H n=S42 (Call Try.prog) Yf (Yg args) H n:=(Zu Try.func42 args H n).trans (s42 ..)
noncomputable def S45 (C:Zp) (L:Zs→Zs) (t:Tm) (H:Hp) (n:Nat):Option (Value × Hp × Nat) :=
 (vcells (t 0)).bind fun c2 =>
 let H1:=H.set (n) (some (.row c2 0 true))
 (Zo 0 (ptr (n) 0)).bind fun v3 =>
 (ld false 1 v3 H1).bind fun v4 =>
 (lenV false v4).bind fun v5 =>
 (Zr .plain .sub v5 (.int .i64 1)).bind fun v6 =>
 (C 56 [t 1,.int .i64 0,v6] H1 (n+9)).bind fun q7 =>
 some (q7.1,q7.2.1,q7.2.2)
theorem s45 (C:Zp) (L:Zs→Zs) (t:Tm) (H:Hp) (n:Nat):bodyK Try.prog C L Try.f45 t H n=S45 C L t H n:=by kernel_rfl
theorem c45 (args:List Value) (H:Hp) (n:Nat):Call Try.prog 45 args H n=S45 (Call Try.prog) Yf (Yg args) H n:=(Zu Try.func45 args H n).trans (s45 ..)
noncomputable def S46 (C:Zp) (L:Zs→Zs) (t:Tm) (H:Hp) (n:Nat):Option (Value × Hp × Nat) :=
 (vcells (t 0)).bind fun c2 =>
 let H1:=H.set (n) (some (.row c2 0 true))
 let H3:=H1.set (n+1) (some (.row [nilS] 0 true))
 (Zo 0 (ptr (n) 0)).bind fun v4 =>
 (ld false 1 v4 H3).bind fun v5 =>
 (C 88 [v5] H3 (n+7)).bind fun q6 =>
 (bld [nilS] [(0,1,q6.1)]).bind fun v7 =>
 (st true 1 (ptr (n+1) 0) v7 q6.2.1).bind fun H8 =>
 (ld true 1 (ptr (n+1) 0) H8).bind fun v9 =>
 some (v9,H8,q6.2.2)
theorem s46 (C:Zp) (L:Zs→Zs) (t:Tm) (H:Hp) (n:Nat):bodyK Try.prog C L Try.f46 t H n=S46 C L t H n:=by kernel_rfl
theorem c46 (args:List Value) (H:Hp) (n:Nat):Call Try.prog 46 args H n=S46 (Call Try.prog) Yf (Yg args) H n:=(Zu Try.func46 args H n).trans (s46 ..)
noncomputable def S48L0 (C:Zp) (L:Zs→Zs):Zs:=fun t H n =>
 (Zo 0 (t 1)).bind fun v4 =>
 (ld false 1 v4 H).bind fun v5 =>
 (lenV false v5).bind fun v6 =>
 (Zr .plain .lss (t 3) v6).bind fun v7 =>
 csel v7
 ((Zo 0 (t 1)).bind fun v8 =>
 (ld false 1 v8 H).bind fun v9 =>
 (idxA 5 v9 (t 3)).bind fun v10 =>
 (ld true 5 v10 H).bind fun v11 =>
 (C 93 [v11,t 3] H (n+13)).bind fun q12 =>
 (un .not q12.1).bind fun v13 =>
 csel v13
 (some ⟨.ret,put (put (put (put (put (put (put (put (put (put (put (put (put (put t 4 (t 3)) 5 v4) 6 v5) 7 v6) 8 v7) 11 v8) 12 v9) 13 (t 3)) 14 v10) 15 v11) 16 (t 3)) 17 q12.1) 18 v13) 2 (.bool false),q12.2.1,q12.2.2+1⟩)
 ((Zr .plain .add (t 3) (.int .i64 1)).bind fun v14 =>
 some ⟨.normal,put (put (put (put (put (put (put (put (put (put (put (put (put (put (put (put t 4 (t 3)) 5 v4) 6 v5) 7 v6) 8 v7) 11 v8) 12 v9) 13 (t 3)) 14 v10) 15 v11) 16 (t 3)) 17 q12.1) 18 v13) 9 (t 3)) 10 v14) 3 v14,q12.2.1,q12.2.2+3⟩))
 (some ⟨(.exit 0),put (put (put (put (put t 4 (t 3)) 5 v4) 6 v5) 7 v6) 8 v7,H,n+5⟩)
noncomputable def S48 (C:Zp) (L:Zs→Zs) (t:Tm) (H:Hp) (n:Nat):Option (Value × Hp × Nat) :=
 (vcells (t 0)).bind fun c2 =>
 let H1:=H.set (n) (some (.row c2 0 true))
 (L (S48L0 C L) (put (put (put t 1 (ptr (n) 0)) 2 (.bool false)) 3 (.int .i64 0)) H1 (n+3)).bind fun (o3:Out) =>
 let o15:=outOf 0 o3
 thenK o15
 ((Zo 0 (o15.t 1)).bind fun v16 =>
 (ld false 1 v16 o15.H).bind fun v17 =>
 (lenV false v17).bind fun v18 =>
 (Zr .plain .leq v18 (.int .i64 3000)).bind fun v19 =>
 some (v19,o15.H,o15.n+5))
 (finE o15.e
 (some (o15.t 2,o15.H,o15.n)))
theorem s48 (C:Zp) (L:Zs→Zs) (t:Tm) (H:Hp) (n:Nat):bodyK Try.prog C L Try.f48 t H n=S48 C L t H n:=by kernel_rfl
theorem c48 (args:List Value) (H:Hp) (n:Nat):Call Try.prog 48 args H n=S48 (Call Try.prog) Yf (Yg args) H n:=(Zu Try.func48 args H n).trans (s48 ..)
noncomputable def S49 (C:Zp) (L:Zs→Zs) (t:Tm) (H:Hp) (n:Nat):Option (Value × Hp × Nat) :=
 (vcells (t 0)).bind fun c2 =>
 let H1:=H.set (n) (some (.row c2 0 true))
 (Zo 0 (ptr (n) 0)).bind fun v3 =>
 (ld false 1 v3 H1).bind fun v4 =>
 (lenV false v4).bind fun v5 =>
 (Zr .plain .sub v5 (.int .i64 1)).bind fun v6 =>
 (C 61 [t 1,.int .i64 0,v6] H1 (n+9)).bind fun q7 =>
 some (q7.1,q7.2.1,q7.2.2)
theorem s49 (C:Zp) (L:Zs→Zs) (t:Tm) (H:Hp) (n:Nat):bodyK Try.prog C L Try.f49 t H n=S49 C L t H n:=by kernel_rfl
theorem c49 (args:List Value) (H:Hp) (n:Nat):Call Try.prog 49 args H n=S49 (Call Try.prog) Yf (Yg args) H n:=(Zu Try.func49 args H n).trans (s49 ..)
noncomputable def S50 (C:Zp) (L:Zs→Zs) (t:Tm) (H:Hp) (n:Nat):Option (Value × Hp × Nat) :=
 (vcells (t 0)).bind fun c2 =>
 let H1:=H.set (n) (some (.row c2 0 true))
 let H3:=H1.set (n+1) (some (.row [nilS] 0 true))
 (bsl (n+2) 5 0 [.int .i64 0,.int .i64 0,.string ⟨#[]⟩,.int .i64 0,.int .i64 0] [] H3).bind fun p4 =>
 (Zo 0 (ptr (n) 0)).bind fun v5 =>
 (ld false 1 v5 p4.2).bind fun v6 =>
 (app (n+5) 5 48 p4.1 v6 p4.2).bind fun p7 =>
 (bld [nilS] [(0,1,p7.1)]).bind fun v8 =>
 (st true 1 (ptr (n+1) 0) v8 p7.2).bind fun H9 =>
 (ld true 1 (ptr (n+1) 0) H9).bind fun v10 =>
 some (v10,H9,n+8)
theorem s50 (C:Zp) (L:Zs→Zs) (t:Tm) (H:Hp) (n:Nat):bodyK Try.prog C L Try.f50 t H n=S50 C L t H n:=by kernel_rfl
theorem c50 (args:List Value) (H:Hp) (n:Nat):Call Try.prog 50 args H n=S50 (Call Try.prog) Yf (Yg args) H n:=(Zu Try.func50 args H n).trans (s50 ..)
noncomputable def S51 (C:Zp) (L:Zs→Zs) (t:Tm) (H:Hp) (n:Nat):Option (Value × Hp × Nat) :=
 (bsl (n) 1 0 [.int .i64 0] [] H).bind fun p1 =>
 (Ye (t 0)).bind fun v2 =>
 (Zo 0 v2).bind fun v3 =>
 (Zo 0 v3).bind fun v4 =>
 (ld false 1 v4 p1.2).bind fun v5 =>
 (idxA 5 v5 (t 1)).bind fun v6 =>
 (Zo 0 v6).bind fun v7 =>
 (ld false 1 v7 p1.2).bind fun v8 =>
 (Zr .plain .eql v8 (.int .i64 5)).bind fun v9 =>
 let t11:Tm:=put (put (put (put (put (put (put (put (put (put (put (put (put t 11 p1.1) 4 p1.1) 5 (.bool false)) 12 (t 0)) 13 v2) 14 v3) 15 v4) 16 v5) 17 (t 1)) 18 v6) 19 v7) 20 v8) 21 v9
 (csel v9
 ((Ye (t11 0)).bind fun v12 =>
 (Zo 0 v12).bind fun v13 =>
 (ld true 1 v13 p1.2).bind fun v14 =>
 (C 94 [v14,t11 1] p1.2 (n+24)).bind fun q15 =>
 (ext 0 q15.1).bind fun v16 =>
 (ext 1 q15.1).bind fun v17 =>
 some ⟨.normal,put (put (put (put (put (put (put (put (put (put (put t11 23 (t11 0)) 24 v12) 25 v13) 26 v14) 27 (t11 1)) 28 q15.1) 22 q15.1) 29 v16) 30 v17) 4 v16) 5 v17,q15.2.1,q15.2.2⟩)
 (some ⟨.normal,t11,p1.2,n+13⟩)
 ).bind fun (o10:Out) =>
 (un .not (o10.t 5)).bind fun v18 =>
 let t20:Tm:=put (put (put o10.t 31 (o10.t 5)) 32 v18) 33 v18
 (gsel v18 false
 ((Ye (t20 0)).bind fun v21 =>
 (Zo 0 v21).bind fun v22 =>
 (Zo 0 v22).bind fun v23 =>
 (ld false 1 v23 o10.H).bind fun v24 =>
 (idxA 1 (t20 4) (.int .i64 0)).bind fun v25 =>
 (ld false 1 v25 o10.H).bind fun v26 =>
 (idxA 5 v24 v26).bind fun v27 =>
 (Zo 0 v27).bind fun v28 =>
 (ld false 1 v28 o10.H).bind fun v29 =>
 (Zr .plain .neq v29 (.int .i64 4)).bind fun v30 =>
 some ⟨put (put (put (put (put (put (put (put (put (put (put (put t20 34 (t20 0)) 35 v21) 36 v22) 37 v23) 38 v24) 39 (t20 4)) 40 v25) 41 v26) 42 v27) 43 v28) 44 v29) 45 v30,o10.H,o10.n+30,[⟨13,false,1,v28,v29⟩,⟨10,false,1,v25,v26⟩,⟨7,false,1,v23,v24⟩],[]⟩)
 (some ⟨put (put (put (put (put (put (put (put (put (put (put (put t20 34 (.tuple #[])) 35 (.tuple #[])) 36 (.tuple #[])) 37 (.tuple #[])) 38 (.tuple #[])) 39 (.tuple #[])) 40 (.tuple #[])) 41 (.tuple #[])) 42 (.tuple #[])) 43 (.tuple #[])) 44 (.tuple #[])) 45 (.tuple #[]),o10.H,o10.n+30,[],[]⟩)
 ).bind fun (q19:R5) =>
 (Zw (q19.t 33) (.bool true) (q19.t 45)).bind fun v31 =>
 let t33:Tm:=put (put q19.t 46 v31) 47 v31
 (gsel v31 false
 ((Ye (t33 0)).bind fun v34 =>
 (Zo 0 v34).bind fun v35 =>
 (Zo 0 v35).bind fun v36 =>
 (ld false 1 v36 q19.H).bind fun v37 =>
 askB 2097151 false 1 v36 v37 q19.hs <|
 (idxA 1 (t33 4) (.int .i64 0)).bind fun v38 =>
 (ld false 1 v38 q19.H).bind fun v39 =>
 askB 12713983 false 1 v38 v39 q19.hs <|
 (idxA 5 v37 v39).bind fun v40 =>
 (Zo 2 v40).bind fun v41 =>
 (ld false 1 v41 q19.H).bind fun v42 =>
 askB 134217727 false 1 v41 v42 q19.hs <|
 (Zr .plain .neq v42 (.string ⟨#[100,101,102,105,110,101]⟩)).bind fun v43 =>
 some ⟨put (put (put (put (put (put (put (put (put (put (put (put t33 48 (t33 0)) 49 v34) 50 v35) 51 v36) 52 v37) 53 (t33 4)) 54 v38) 55 v39) 56 v40) 57 v41) 58 v42) 59 v43,q19.H,q19.n,(⟨27,false,1,v41,v42⟩ :: ⟨24,false,1,v38,v39⟩ :: ⟨21,false,1,v36,v37⟩ :: q19.rs),q19.hs⟩)
 (some ⟨put (put (put (put (put (put (put (put (put (put (put (put t33 48 (.tuple #[])) 49 (.tuple #[])) 50 (.tuple #[])) 51 (.tuple #[])) 52 (.tuple #[])) 53 (.tuple #[])) 54 (.tuple #[])) 55 (.tuple #[])) 56 (.tuple #[])) 57 (.tuple #[])) 58 (.tuple #[])) 59 (.tuple #[]),q19.H,q19.n,q19.rs,q19.hs⟩)
 ).bind fun (q32:R5) =>
 (Zw (q32.t 47) (.bool true) (q32.t 59)).bind fun v44 =>
 csel v44
 ((bsl (q32.n+1) 1 0 [.string ⟨#[]⟩] [] q32.H).bind fun p45 =>
 (bsl (q32.n+3) 1 1 [.int .i64 0] [(0,1,q32.t 1)] p45.2).bind fun p46 =>
 (C 95 [q32.t 0,.string ⟨#[109,97,105,110]⟩,p45.1,p46.1] p46.2 (q32.n+5)).bind fun q47 =>
 some (.tuple ⟨[]⟩,q47.2.1,q47.2.2))
 ((lenV false (q32.t 4)).bind fun v48 =>
 (Zr .plain .lss v48 (.int .i64 3)).bind fun v49 =>
 let t51:Tm:=put (put (put (put (put q32.t 60 v44) 66 (q32.t 4)) 67 v48) 68 v49) 69 v49
 (gsel v49 false
 ((Ye (t51 0)).bind fun v52 =>
 (Zo 0 v52).bind fun v53 =>
 (Zo 0 v53).bind fun v54 =>
 (ld false 1 v54 q32.H).bind fun v55 =>
 (idxA 1 (t51 4) (.int .i64 1)).bind fun v56 =>
 (ld false 1 v56 q32.H).bind fun v57 =>
 (idxA 5 v55 v57).bind fun v58 =>
 (Zo 0 v58).bind fun v59 =>
 (ld false 1 v59 q32.H).bind fun v60 =>
 (Zr .plain .neq v60 (.int .i64 5)).bind fun v61 =>
 some ⟨put (put (put (put (put (put (put (put (put (put (put (put t51 70 (t51 0)) 71 v52) 72 v53) 73 v54) 74 v55) 75 (t51 4)) 76 v56) 77 v57) 78 v58) 79 v59) 80 v60) 81 v61,q32.H,q32.n+17,[⟨14,false,1,v59,v60⟩,⟨11,false,1,v56,v57⟩,⟨8,false,1,v54,v55⟩],[]⟩)
 (some ⟨put (put (put (put (put (put (put (put (put (put (put (put t51 70 (.tuple #[])) 71 (.tuple #[])) 72 (.tuple #[])) 73 (.tuple #[])) 74 (.tuple #[])) 75 (.tuple #[])) 76 (.tuple #[])) 77 (.tuple #[])) 78 (.tuple #[])) 79 (.tuple #[])) 80 (.tuple #[])) 81 (.tuple #[]),q32.H,q32.n+17,[],[]⟩)
 ).bind fun (q50:R5) =>
 (Zw (q50.t 69) (.bool true) (q50.t 81)).bind fun v62 =>
 csel v62
 ((Ye (q50.t 0)).bind fun v63 =>
 (Zo 3 v63).bind fun v64 =>
 (st false 1 v64 (.int .i64 1) q50.H).bind fun H65 =>
 some (.tuple ⟨[]⟩,H65,q50.n+4))
 ((Ye (q50.t 0)).bind fun v66 =>
 (Zo 0 v66).bind fun v67 =>
 (ld true 1 v67 q50.H).bind fun v68 =>
 (idxA 1 (q50.t 4) (.int .i64 1)).bind fun v69 =>
 (ld false 1 v69 q50.H).bind fun v70 =>
 (C 94 [v68,v70] q50.H (q50.n+13)).bind fun q71 =>
 (ext 0 q71.1).bind fun v72 =>
 (ext 1 q71.1).bind fun v73 =>
 (un .not v73).bind fun v74 =>
 csel v74
 ((Ye (q50.t 0)).bind fun v75 =>
 (Zo 3 v75).bind fun v76 =>
 (st false 1 v76 (.int .i64 1) q71.2.1).bind fun H77 =>
 some (.tuple ⟨[]⟩,H77,q71.2.2+6))
 ((idxA 1 v72 (.int .i64 0)).bind fun v78 =>
 (ld false 1 v78 q71.2.1).bind fun v79 =>
 (C 96 [q50.t 0,v79] q71.2.1 (q71.2.2+12)).bind fun q80 =>
 (ext 0 q80.1).bind fun v81 =>
 (ext 1 q80.1).bind fun v82 =>
 (un .not v82).bind fun v83 =>
 csel v83
 ((Ye (q50.t 0)).bind fun v84 =>
 (Zo 3 v84).bind fun v85 =>
 (st false 1 v85 (.int .i64 1) q80.2.1).bind fun H86 =>
 some (.tuple ⟨[]⟩,H86,q80.2.2+6))
 ((sliceV 1 v72 (some (.int .i64 1)) none).bind fun v87 =>
 (C 97 [q50.t 0,v87] q80.2.1 (q80.2.2+7)).bind fun q88 =>
 (sliceV 1 (q50.t 4) (some (.int .i64 2)) none).bind fun v89 =>
 (C 95 [q50.t 0,v81,q88.1,v89] q88.2.1 (q88.2.2+6)).bind fun q90 =>
 some (.tuple ⟨[]⟩,q90.2.1,q90.2.2)))))
theorem s51 (C:Zp) (L:Zs→Zs) (t:Tm) (H:Hp) (n:Nat):bodyK Try.prog C L Try.f51 t H n=S51 C L t H n:=by kernel_rfl
theorem c51 (args:List Value) (H:Hp) (n:Nat):Call Try.prog 51 args H n=S51 (Call Try.prog) Yf (Yg args) H n:=(Zu Try.func51 args H n).trans (s51 ..)
noncomputable def S52L0 (C:Zp) (L:Zs→Zs):Zs:=fun t H n =>
 (Zr .plain .lss (t 8) (t 7)).bind fun v3 =>
 csel v3
 ((idxA 3 (t 0) (t 8)).bind fun v4 =>
 (ld true 3 v4 H).bind fun v5 =>
 (calleeP (t 1) [v5]).bind fun c7 =>
 (C c7.1 c7.2 H (n+9)).bind fun q6 =>
 csel q6.1
 (some ⟨.ret,put (put (put (put (put (put (put (put (put (put (put t 9 v3) 10 (t 8)) 5 (t 8)) 11 (t 1)) 12 (t 0)) 13 (t 8)) 14 v4) 15 v5) 16 q6.1) 17 (t 8)) 4 (t 8),q6.2.1,q6.2.2+2⟩)
 ((Zr .plain .add (t 8) (.int .i64 1)).bind fun v8 =>
 some ⟨.normal,put (put (put (put (put (put (put (put (put (put (put t 9 v3) 10 (t 8)) 5 (t 8)) 11 (t 1)) 12 (t 0)) 13 (t 8)) 14 v4) 15 v5) 16 q6.1) 18 v8) 8 v8,q6.2.1,q6.2.2+2⟩))
 (some ⟨(.exit 0),put t 9 v3,H,n+1⟩)
noncomputable def S52 (C:Zp) (L:Zs→Zs) (t:Tm) (H:Hp) (n:Nat):Option (Value × Hp × Nat) :=
 (lenV false (t 0)).bind fun v1 =>
 (L (S52L0 C L) (put (put (put (put t 4 (.int .i64 0)) 6 (t 0)) 7 v1) 8 (.int .i64 0)) H (n+4)).bind fun (o2:Out) =>
 let o9:=outOf 0 o2
 thenK o9
 (some (.int .i64 (-1),o9.H,o9.n+1))
 (finE o9.e
 (some (o9.t 4,o9.H,o9.n)))
theorem s52 (C:Zp) (L:Zs→Zs) (t:Tm) (H:Hp) (n:Nat):bodyK Try.prog C L Try.f52 t H n=S52 C L t H n:=by kernel_rfl
theorem c52 (args:List Value) (H:Hp) (n:Nat):Call Try.prog 52 args H n=S52 (Call Try.prog) Yf (Yg args) H n:=(Zu Try.func52 args H n).trans (s52 ..)
noncomputable def S53 (C:Zp) (L:Zs→Zs) (t:Tm) (H:Hp) (n:Nat):Option (Value × Hp × Nat) :=
 (vcells (t 0)).bind fun c2 =>
 let H1:=H.set (n) (some (.row c2 0 true))
 (Zo 0 (ptr (n) 0)).bind fun v3 =>
 (ld false 1 v3 H1).bind fun v4 =>
 (ld false 1 (t 1) H1).bind fun v5 =>
 (Zr .plain .eql v4 v5).bind fun v6 =>
 some (v6,H1,n+7)
theorem s53 (C:Zp) (L:Zs→Zs) (t:Tm) (H:Hp) (n:Nat):bodyK Try.prog C L Try.f53 t H n=S53 C L t H n:=by kernel_rfl
theorem c53 (args:List Value) (H:Hp) (n:Nat):Call Try.prog 53 args H n=S53 (Call Try.prog) Yf (Yg args) H n:=(Zu Try.func53 args H n).trans (s53 ..)
noncomputable def S54 (C:Zp) (L:Zs→Zs) (t:Tm) (H:Hp) (n:Nat):Option (Value × Hp × Nat) :=
 (vcells (t 0)).bind fun c2 =>
 let H1:=H.set (n) (some (.row c2 0 true))
 (Zo 1 (ptr (n) 0)).bind fun v3 =>
 (ld false 1 v3 H1).bind fun v4 =>
 (idxA 4 v4 (t 1)).bind fun v5 =>
 (ld true 4 v5 H1).bind fun v6 =>
 let H7:=H1.set (n+7) (some (.row [.int .i64 0,.int .i64 0,.int .i64 0,.string ⟨#[]⟩] 0 true))
 (st true 4 (ptr (n+7) 0) v6 H7).bind fun H8 =>
 (Zo 1 (ptr (n+7) 0)).bind fun v9 =>
 (ld false 1 v9 H8).bind fun v10 =>
 (Zr .plain .eql v10 (.int .i64 0)).bind fun v11 =>
 (Zo 2 (ptr (n+7) 0)).bind fun v12 =>
 (ld false 1 v12 H8).bind fun v13 =>
 (Zr .plain .eql v13 (.int .i64 0)).bind fun v14 =>
 (Zo 3 (ptr (n+7) 0)).bind fun v15 =>
 (ld false 1 v15 H8).bind fun v16 =>
 (Zr .plain .eql v16 (.string ⟨#[]⟩)).bind fun v17 =>
 (Zo 0 (ptr (n+7) 0)).bind fun v18 =>
 (ld false 1 v18 H8).bind fun v19 =>
 (Zr .plain .eql v19 (.int .i64 1)).bind fun v20 =>
 let t22:Tm:=put (put (put (put (put (put (put (put (put (put (put (put (put (put (put (put (put (put (put (put (put (put (put (put t 2 (ptr (n) 0)) 4 (.bool false)) 9 v3) 10 v4) 11 (t 1)) 12 v5) 13 v6) 5 (ptr (n+7) 0)) 14 v9) 15 v10) 16 v11) 17 v12) 18 v13) 19 v14) 20 v15) 21 v16) 22 v17) 6 v11) 7 v14) 8 v17) 23 v18) 24 v19) 26 v20) 25 v20
 (csel v20
 ((Zo 0 (ptr (n) 0)).bind fun v23 =>
 (ld true 1 v23 H8).bind fun v24 =>
 (Zo 1 (ptr (n+7) 0)).bind fun v25 =>
 (ld false 1 v25 H8).bind fun v26 =>
 (C 45 [v24,v26] H8 (n+31)).bind fun q27 =>
 some ⟨.normal,put (put (put (put (put (put t22 27 v23) 28 v24) 29 v25) 30 v26) 31 q27.1) 6 q27.1,q27.2.1,q27.2.2⟩)
 ((Zr .plain .eql v19 (.int .i64 2)).bind fun v28 =>
 let t30:Tm:=put (put t22 33 v28) 32 v28
 (csel v28
 ((Zo 1 (ptr (n+7) 0)).bind fun v31 =>
 (ld false 1 v31 H8).bind fun v32 =>
 (C 56 [v32,.int .i64 0,.int .i64 20] H8 (n+35)).bind fun q33 =>
 (Zo 2 (ptr (n+7) 0)).bind fun v34 =>
 (ld false 1 v34 q33.2.1).bind fun v35 =>
 ask (ld false 1 v34 H8=some v35) <|
 (C 56 [v35,.int .i64 0,.int .i64 3] q33.2.1 (q33.2.2)).bind fun q36 =>
 some ⟨.normal,put (put (put (put (put (put (put (put t30 34 v31) 35 v32) 36 q33.1) 37 v34) 38 v35) 39 q36.1) 6 q33.1) 7 q36.1,q36.2.1,q36.2.2⟩)
 ((Zr .plain .eql v19 (.int .i64 3)).bind fun v37 =>
 let t39:Tm:=put (put t30 41 v37) 40 v37
 (csel v37
 ((Zo 3 (ptr (n+7) 0)).bind fun v40 =>
 (ld false 1 v40 H8).bind fun v41 =>
 (C 55 [v41] H8 (n+33)).bind fun q42 =>
 some ⟨.normal,put (put (put (put t39 42 v40) 43 v41) 44 q42.1) 8 q42.1,q42.2.1,q42.2.2⟩)
 ((Zr .plain .eql v19 (.int .i64 4)).bind fun v43 =>
 let t45:Tm:=put (put t39 46 v43) 45 v43
 (csel v43
 (some ⟨.normal,t45,H8,n+31⟩)
 ((Zr .plain .eql v19 (.int .i64 5)).bind fun v46 =>
 some ⟨.normal,put (put t45 47 v46) 45 v46,H8,n+33⟩)
 ).bind fun (o44:Out) =>
 (csel (o44.t 45)
 ((Zo 1 (o44.t 5)).bind fun v49 =>
 (ld false 1 v49 o44.H).bind fun v50 =>
 (Zr .plain .add (o44.t 1) (.int .i64 1)).bind fun v51 =>
 (Zo 1 (o44.t 2)).bind fun v52 =>
 (ld false 1 v52 o44.H).bind fun v53 =>
 (lenV false v53).bind fun v54 =>
 (C 56 [v50,v51,v54] o44.H (o44.n+9)).bind fun q55 =>
 some ⟨.normal,put (put (put (put (put (put (put (put (put o44.t 48 v49) 49 v50) 50 (o44.t 1)) 51 v51) 52 v52) 53 v53) 54 v54) 55 q55.1) 6 q55.1,q55.2.1,q55.2.2⟩)
 ((Zr .plain .eql (o44.t 24) (.int .i64 6)).bind fun v56 =>
 let t58:Tm:=put (put o44.t 57 v56) 56 v56
 (csel v56
 ((Zo 1 (t58 5)).bind fun v59 =>
 (ld false 1 v59 o44.H).bind fun v60 =>
 (Zr .plain .add (t58 1) (.int .i64 1)).bind fun v61 =>
 (Zo 1 (t58 2)).bind fun v62 =>
 (ld false 1 v62 o44.H).bind fun v63 =>
 (lenV false v63).bind fun v64 =>
 (Zr .plain .sub v64 (.int .i64 1)).bind fun v65 =>
 (C 56 [v60,v61,v65] o44.H (o44.n+16)).bind fun q66 =>
 (Zo 2 (t58 5)).bind fun v67 =>
 (ld false 1 v67 q66.2.1).bind fun v68 =>
 ask (ld false 1 v67 o44.H=some v68) <|
 (C 56 [v68,.int .i64 0,.int .i64 4] q66.2.1 (q66.2.2)).bind fun q69 =>
 some ⟨.normal,put (put (put (put (put (put (put (put (put (put (put (put (put (put t58 58 v59) 59 v60) 60 (t58 1)) 61 v61) 62 v62) 63 v63) 64 v64) 65 v65) 66 q66.1) 67 v67) 68 v68) 69 q69.1) 6 q66.1) 7 q69.1,q69.2.1,q69.2.2⟩)
 ((Zr .plain .eql (t58 24) (.int .i64 7)).bind fun v70 =>
 let t72:Tm:=put (put t58 71 v70) 70 v70
 (csel v70
 ((Zo 2 (t72 5)).bind fun v73 =>
 (ld false 1 v73 o44.H).bind fun v74 =>
 (C 56 [v74,.int .i64 0,.int .i64 4] o44.H (o44.n+8)).bind fun q75 =>
 some ⟨.normal,put (put (put (put t72 72 v73) 73 v74) 74 q75.1) 7 q75.1,q75.2.1,q75.2.2⟩)
 ((Zr .plain .eql (t72 24) (.int .i64 8)).bind fun v76 =>
 let t78:Tm:=put (put t72 76 v76) 75 v76
 (csel v76
 (some ⟨.normal,t78,o44.H,o44.n+6⟩)
 ((Zr .plain .eql (t78 24) (.int .i64 9)).bind fun v79 =>
 some ⟨.normal,put (put t78 77 v79) 75 v79,o44.H,o44.n+8⟩)
 ).bind fun (o77:Out) =>
 csel (o77.t 75)
 (some ⟨.normal,o77.t,o77.H,o77.n⟩)
 (some ⟨.ret,put o77.t 4 (.bool false),o77.H,o77.n+1⟩))
 ).bind fun (o71:Out) =>
 some o71)
 ).bind fun (o57:Out) =>
 some o57)
 ).bind fun (o47:Out) =>
 some o47)
 ).bind fun (o38:Out) =>
 some o38)
 ).bind fun (o29:Out) =>
 some o29)
 ).bind fun (o21:Out) =>
 let o80:=outOf 0 o21
 thenK o80
 ((Zw (o80.t 6) (gsel (o80.t 6) true (o80.t 7) (.tuple #[])) (.bool false)).bind fun v81 =>
 (Zw v81 (gsel v81 true (o80.t 8) (.tuple #[])) (.bool false)).bind fun v82 =>
 some (v82,o80.H,o80.n+8))
 (finE o80.e
 (some (o80.t 4,o80.H,o80.n)))
theorem s54 (C:Zp) (L:Zs→Zs) (t:Tm) (H:Hp) (n:Nat):bodyK Try.prog C L Try.f54 t H n=S54 C L t H n:=by kernel_rfl
theorem c54 (args:List Value) (H:Hp) (n:Nat):Call Try.prog 54 args H n=S54 (Call Try.prog) Yf (Yg args) H n:=(Zu Try.func54 args H n).trans (s54 ..)
noncomputable def S55L0 (C:Zp) (L:Zs→Zs):Zs:=fun t H n =>
 (Zr .plain .lss (t 10) (t 9)).bind fun v6 =>
 csel v6
 ((idxS (t 0) (t 10)).bind fun v7 =>
 (C 98 [v7] H (n+8)).bind fun q8 =>
 (un .not q8.1).bind fun v9 =>
 csel v9
 (some ⟨.ret,put (put (put (put (put (put (put (put (put t 11 v6) 12 (t 10)) 3 (t 10)) 13 (t 0)) 14 (t 10)) 15 v7) 16 q8.1) 17 v9) 2 (.bool false),q8.2.1,q8.2.2+1⟩)
 ((Zr .plain .add (t 10) (.int .i64 1)).bind fun v10 =>
 some ⟨.normal,put (put (put (put (put (put (put (put (put (put t 11 v6) 12 (t 10)) 3 (t 10)) 13 (t 0)) 14 (t 10)) 15 v7) 16 q8.1) 17 v9) 18 v10) 10 v10,q8.2.1,q8.2.2+2⟩))
 (some ⟨(.exit 0),put t 11 v6,H,n+1⟩)
noncomputable def S55 (C:Zp) (L:Zs→Zs) (t:Tm) (H:Hp) (n:Nat):Option (Value × Hp × Nat) :=
 (lenV true (t 0)).bind fun v1 =>
 (C 56 [v1,.int .i64 1,.int .i64 12] H (n+5)).bind fun q2 =>
 (un .not q2.1).bind fun v3 =>
 csel v3
 (some (.bool false,q2.2.1,q2.2.2+1))
 ((lenV true (t 0)).bind fun v4 =>
 (L (S55L0 C L) (put (put (put (put (put (put (put (put t 2 (.bool false)) 4 (t 0)) 5 v1) 6 q2.1) 7 v3) 8 (t 0)) 9 v4) 10 (.int .i64 0)) q2.2.1 (q2.2.2+3)).bind fun (o5:Out) =>
 let o11:=outOf 0 o5
 thenK o11
 (some (.bool true,o11.H,o11.n+1))
 (finE o11.e
 (some (o11.t 2,o11.H,o11.n))))
theorem s55 (C:Zp) (L:Zs→Zs) (t:Tm) (H:Hp) (n:Nat):bodyK Try.prog C L Try.f55 t H n=S55 C L t H n:=by kernel_rfl
theorem c55 (args:List Value) (H:Hp) (n:Nat):Call Try.prog 55 args H n=S55 (Call Try.prog) Yf (Yg args) H n:=(Zu Try.func55 args H n).trans (s55 ..)
noncomputable def S56 (C:Zp) (L:Zs→Zs) (t:Tm) (H:Hp) (n:Nat):Option (Value × Hp × Nat) :=
 (Zr .plain .geq (t 0) (t 1)).bind fun v1 =>
 let t3:Tm:=put (put (put (put (put t 6 (.bool false)) 7 (t 0)) 8 (t 1)) 9 v1) 10 v1
 (gsel v1 true
 ((Zr .plain .leq (t3 0) (t3 2)).bind fun v4 =>
 some (put (put (put t3 11 (t3 0)) 12 (t3 2)) 13 v4,H,n+10))
 (some (put (put (put t3 11 (.tuple #[])) 12 (.tuple #[])) 13 (.tuple #[]),H,n+10))
 ).bind fun (q2:R3) =>
 (Zw (q2.1 10) (q2.1 13) (.bool false)).bind fun v5 =>
 some (v5,q2.2.1,q2.2.2)
theorem s56 (C:Zp) (L:Zs→Zs) (t:Tm) (H:Hp) (n:Nat):bodyK Try.prog C L Try.f56 t H n=S56 C L t H n:=by kernel_rfl
theorem c56 (args:List Value) (H:Hp) (n:Nat):Call Try.prog 56 args H n=S56 (Call Try.prog) Yf (Yg args) H n:=(Zu Try.func56 args H n).trans (s56 ..)
noncomputable def S57 (C:Zp) (L:Zs→Zs) (t:Tm) (H:Hp) (n:Nat):Option (Value × Hp × Nat) :=
 let H1:=H.set (n) (some (.row [nilS,nilS,nilS] 0 true))
 (C 99 [t 0] H1 (n+5)).bind fun q2 =>
 let H3:=q2.2.1.set (n+3) (some (.row [nilS,nilS,nilS] 0 true))
 (st true 3 (ptr (n+3) 0) q2.1 H3).bind fun H4 =>
 (Zo 1 (ptr (n+3) 0)).bind fun v5 =>
 (ld false 1 v5 H4).bind fun v6 =>
 (lenV false v6).bind fun v7 =>
 (C 38 [t 0,v7] H4 (q2.2.2+6)).bind fun q8 =>
 (C 38 [t 0,.int .i64 25] q8.2.1 (q8.2.2+2)).bind fun q9 =>
 (Zr .plain .eql q9.1 (.int .i64 0)).bind fun v10 =>
 let t12:Tm:=put (put (put (put (put (put (put (put (put (put (put (put (put (put t 2 (ptr (n) 0)) 5 (t 0)) 6 q2.1) 3 (ptr (n+3) 0)) 7 (t 0)) 8 v5) 9 v6) 10 v7) 11 q8.1) 4 q8.1) 12 (t 0)) 13 q9.1) 15 v10) 14 v10
 (csel v10
 ((Zo 1 (ptr (n+3) 0)).bind fun v13 =>
 (ld false 1 v13 q9.2.1).bind fun v14 =>
 (C 38 [t12 0,.int .i64 11] q9.2.1 (q9.2.2+10)).bind fun q15 =>
 ask (ld false 1 v13 q15.2.1=some v14) <|
 (idxA 4 v14 q8.1).bind fun v16 =>
 (Zo 0 v16).bind fun v17 =>
 (st false 1 v17 q15.1 q15.2.1).bind fun H18 =>
 some ⟨.normal,put (put (put (put (put (put (put t12 16 v13) 17 v14) 18 q8.1) 19 (t12 0)) 20 q15.1) 21 v16) 22 v17,H18,q15.2.2⟩)
 ((Zr .plain .eql q9.1 (.int .i64 1)).bind fun v19 =>
 let t21:Tm:=put (put t12 24 v19) 23 v19
 (csel v19
 ((Zo 1 (ptr (n+3) 0)).bind fun v22 =>
 (ld false 1 v22 q9.2.1).bind fun v23 =>
 (Zr .plain .add q8.1 (.int .i64 1)).bind fun v24 =>
 (Zo 1 (ptr (n+3) 0)).bind fun v25 =>
 (ld false 1 v25 q9.2.1).bind fun v26 =>
 (lenV false v26).bind fun v27 =>
 (Zo 1 (ptr (n+3) 0)).bind fun v28 =>
 (ld false 1 v28 q9.2.1).bind fun v29 =>
 (lenV false v29).bind fun v30 =>
 (Zr .plain .add v30 (.int .i64 1)).bind fun v31 =>
 (bsl (q9.2.2+18) 1 6 [.int .i64 0] [(0,1,.int .i64 (-1)),(1,1,.int .i64 0),(2,1,q8.1),(3,1,v24),(4,1,v27),(5,1,v31)] q9.2.1).bind fun p32 =>
 (C 62 [t21 0,p32.1] p32.2 (q9.2.2+23)).bind fun q33 =>
 ask (ld false 1 v22 q33.2.1=some v23) <|
 (idxA 4 v23 q8.1).bind fun v34 =>
 (Zo 1 v34).bind fun v35 =>
 (st false 1 v35 q33.1 q33.2.1).bind fun H36 =>
 some ⟨.normal,put (put (put (put (put (put (put (put (put (put (put (put (put (put (put (put (put (put t21 25 v22) 26 v23) 27 q8.1) 28 (t21 0)) 29 q8.1) 30 q8.1) 31 v24) 32 v25) 33 v26) 34 v27) 35 v28) 36 v29) 37 v30) 38 v31) 39 p32.1) 40 q33.1) 41 v34) 42 v35,H36,q33.2.2⟩)
 ((Zr .plain .eql q9.1 (.int .i64 2)).bind fun v37 =>
 let t39:Tm:=put (put t21 44 v37) 43 v37
 (csel v37
 ((Zo 1 (ptr (n+3) 0)).bind fun v40 =>
 (ld false 1 v40 q9.2.1).bind fun v41 =>
 (C 38 [t39 0,.int .i64 7] q9.2.1 (q9.2.2+15)).bind fun q42 =>
 ask (ld false 1 v40 q42.2.1=some v41) <|
 (Zr .plain .sub q42.1 (.int .i64 1)).bind fun v43 =>
 (idxA 4 v41 q8.1).bind fun v44 =>
 (Zo 2 v44).bind fun v45 =>
 (st false 1 v45 v43 q42.2.1).bind fun H46 =>
 some ⟨.normal,put (put (put (put (put (put (put (put t39 45 v40) 46 v41) 47 q8.1) 48 (t39 0)) 49 q42.1) 50 v43) 51 v44) 52 v45,H46,q42.2.2⟩)
 ((Zr .plain .eql q9.1 (.int .i64 3)).bind fun v47 =>
 let t49:Tm:=put (put t39 54 v47) 53 v47
 (csel v47
 ((Zo 1 (ptr (n+3) 0)).bind fun v50 =>
 (ld false 1 v50 q9.2.1).bind fun v51 =>
 (bsl (q9.2.2+12) 1 3 [.string ⟨#[]⟩] [(0,1,.string ⟨#[]⟩),(1,1,.string ⟨#[97]⟩),(2,1,.string ⟨#[65]⟩)] q9.2.1).bind fun p52 =>
 (C 58 [t49 0,p52.1] p52.2 (q9.2.2+17)).bind fun q53 =>
 ask (ld false 1 v50 q53.2.1=some v51) <|
 (idxA 4 v51 q8.1).bind fun v54 =>
 (Zo 3 v54).bind fun v55 =>
 (st false 1 v55 q53.1 q53.2.1).bind fun H56 =>
 some ⟨.normal,put (put (put (put (put (put (put (put t49 55 v50) 56 v51) 57 q8.1) 58 (t49 0)) 59 p52.1) 60 q53.1) 61 v54) 62 v55,H56,q53.2.2⟩)
 ((Zr .plain .eql q9.1 (.int .i64 4)).bind fun v57 =>
 let t59:Tm:=put (put t49 64 v57) 63 v57
 (csel v57
 ((Zo 2 (ptr (n+3) 0)).bind fun v60 =>
 (ld false 1 v60 q9.2.1).bind fun v61 =>
 (bsl (q9.2.2+13) 1 4 [.string ⟨#[]⟩] [(0,1,.string ⟨#[102]⟩),(1,1,.string ⟨#[109,97,105,110]⟩),(2,1,.string ⟨#[122,122]⟩),(3,1,.string ⟨#[65]⟩)] q9.2.1).bind fun p62 =>
 (C 58 [t59 0,p62.1] p62.2 (q9.2.2+24)).bind fun q63 =>
 ask (ld false 1 v60 q63.2.1=some v61) <|
 (C 38 [t59 0,.int .i64 60] q63.2.1 (q63.2.2)).bind fun q64 =>
 ask (ld false 1 v60 q64.2.1=some v61) <|
 (C 38 [t59 0,.int .i64 6] q64.2.1 (q64.2.2)).bind fun q65 =>
 ask (ld false 1 v60 q65.2.1=some v61) <|
 (bld [.string ⟨#[]⟩,.int .i64 0,.int .i64 0] [(0,1,q63.1),(1,1,q64.1),(2,1,q65.1)]).bind fun v66 =>
 (bsl (q9.2.2+20) 3 1 [.string ⟨#[]⟩,.int .i64 0,.int .i64 0] [(0,3,v66)] q65.2.1).bind fun p67 =>
 (app (q9.2.2+21) 3 32 v61 p67.1 p67.2).bind fun p68 =>
 (Zo 2 (ptr (n+3) 0)).bind fun v69 =>
 (st false 1 v69 p68.1 p68.2).bind fun H70 =>
 some ⟨.normal,put (put (put (put (put (put (put (put (put (put (put (put (put t59 65 v60) 66 v61) 67 (t59 0)) 68 p62.1) 69 q63.1) 70 (t59 0)) 71 q64.1) 72 (t59 0)) 73 q65.1) 74 v66) 75 p67.1) 76 p68.1) 77 v69,H70,q65.2.2⟩)
 ((Zr .plain .eql q9.1 (.int .i64 5)).bind fun v71 =>
 let t73:Tm:=put (put t59 79 v71) 78 v71
 (csel v71
 ((C 39 [t73 0] q9.2.1 (q9.2.2+16)).bind fun q74 =>
 (Zo 0 (ptr (n+3) 0)).bind fun v75 =>
 (st true 1 v75 q74.1 q74.2.1).bind fun H76 =>
 some ⟨.normal,put (put (put t73 80 (t73 0)) 81 q74.1) 82 v75,H76,q74.2.2⟩)
 (some ⟨.normal,t73,q9.2.1,q9.2.2+12⟩)
 ).bind fun (o72:Out) =>
 some ⟨.normal,o72.t,o72.H,o72.n⟩)
 ).bind fun (o58:Out) =>
 some ⟨.normal,o58.t,o58.H,o58.n⟩)
 ).bind fun (o48:Out) =>
 some ⟨.normal,o48.t,o48.H,o48.n⟩)
 ).bind fun (o38:Out) =>
 some ⟨.normal,o38.t,o38.H,o38.n⟩)
 ).bind fun (o20:Out) =>
 some ⟨.normal,o20.t,o20.H,o20.n⟩)
 ).bind fun (o11:Out) =>
 (ld true 3 (o11.t 3) o11.H).bind fun v77 =>
 (st true 3 (o11.t 2) v77 o11.H).bind fun H78 =>
 (ld true 3 (o11.t 2) H78).bind fun v79 =>
 some (v79,H78,o11.n+2)
theorem s57 (C:Zp) (L:Zs→Zs) (t:Tm) (H:Hp) (n:Nat):bodyK Try.prog C L Try.f57 t H n=S57 C L t H n:=by kernel_rfl
theorem c57 (args:List Value) (H:Hp) (n:Nat):Call Try.prog 57 args H n=S57 (Call Try.prog) Yf (Yg args) H n:=(Zu Try.func57 args H n).trans (s57 ..)
noncomputable def S58 (C:Zp) (L:Zs→Zs) (t:Tm) (H:Hp) (n:Nat):Option (Value × Hp × Nat) :=
 (lenV false (t 1)).bind fun v1 =>
 (C 38 [t 0,v1] H (n+9)).bind fun q2 =>
 (idxA 1 (t 1) q2.1).bind fun v3 =>
 (ld false 1 v3 q2.2.1).bind fun v4 =>
 some (v4,q2.2.1,q2.2.2)
theorem s58 (C:Zp) (L:Zs→Zs) (t:Tm) (H:Hp) (n:Nat):bodyK Try.prog C L Try.f58 t H n=S58 C L t H n:=by kernel_rfl
theorem c58 (args:List Value) (H:Hp) (n:Nat):Call Try.prog 58 args H n=S58 (Call Try.prog) Yf (Yg args) H n:=(Zu Try.func58 args H n).trans (s58 ..)
noncomputable def S59 (C:Zp) (L:Zs→Zs) (t:Tm) (H:Hp) (n:Nat):Option (Value × Hp × Nat) :=
 (vcells (t 0)).bind fun c2 =>
 let H1:=H.set (n) (some (.row c2 0 true))
 (Zo 1 (ptr (n) 0)).bind fun v3 =>
 (ld false 1 v3 H1).bind fun v4 =>
 (idxA 4 v4 (t 1)).bind fun v5 =>
 (ld true 4 v5 H1).bind fun v6 =>
 let H7:=H1.set (n+7) (some (.row [.int .i64 0,.int .i64 0,.int .i64 0,.string ⟨#[]⟩] 0 true))
 (st true 4 (ptr (n+7) 0) v6 H7).bind fun H8 =>
 (Zo 1 (ptr (n) 0)).bind fun v9 =>
 (ld false 1 v9 H8).bind fun v10 =>
 (lenV false v10).bind fun v11 =>
 (Zo 0 (ptr (n+7) 0)).bind fun v12 =>
 (ld false 1 v12 H8).bind fun v13 =>
 (bld [.int .i64 0,.int .i64 0,.int .i64 0,.string ⟨#[]⟩] [(0,1,v13)]).bind fun v14 =>
 let H15:=H8.set (n+16) (some (.row [.int .i64 0,.int .i64 0,.int .i64 0,.string ⟨#[]⟩] 0 true))
 (st true 4 (ptr (n+16) 0) v14 H15).bind fun H16 =>
 (Zo 0 (ptr (n+7) 0)).bind fun v17 =>
 (ld false 1 v17 H16).bind fun v18 =>
 (Zr .plain .eql v18 (.int .i64 1)).bind fun v19 =>
 csel v19
 ((Zo 1 (ptr (n+7) 0)).bind fun v20 =>
 (ld false 1 v20 H16).bind fun v21 =>
 (Zo 1 (ptr (n+16) 0)).bind fun v22 =>
 (st false 1 v22 v21 H16).bind fun H23 =>
 (ld true 4 (ptr (n+7) 0) H23).bind fun v24 =>
 (ld true 4 (ptr (n+16) 0) H23).bind fun v25 =>
 (Zr (.agg [(0,(.int .i64)),(1,(.int .i64)),(2,(.int .i64)),(3,.string)]) .eql v24 v25).bind fun v26 =>
 let t28:Tm:=put (put (put (put (put (put (put (put (put (put (put (put (put (put (put (put (put (put (put (put (put (put (put (put (put (put (put t 2 (ptr (n) 0)) 4 (.bool false)) 8 v3) 9 v4) 10 (t 1)) 11 v5) 12 v6) 5 (ptr (n+7) 0)) 13 v9) 14 v10) 15 v11) 6 v11) 16 v12) 17 v13) 18 v14) 7 (ptr (n+16) 0)) 19 v17) 20 v18) 22 v19) 21 v19) 23 v20) 24 v21) 25 v22) 26 v24) 27 v25) 28 v26) 29 v26
 (gsel v26 true
 ((Zo 0 (ptr (n) 0)).bind fun v29 =>
 (ld true 1 v29 H23).bind fun v30 =>
 (Zo 1 (ptr (n+7) 0)).bind fun v31 =>
 (ld false 1 v31 H23).bind fun v32 =>
 (C 49 [v30,v32] H23 (n+37)).bind fun q33 =>
 some (put (put (put (put (put t28 30 v29) 31 v30) 32 v31) 33 v32) 34 q33.1,q33.2.1,q33.2.2))
 (some (put (put (put (put (put t28 30 (.tuple #[])) 31 (.tuple #[])) 32 (.tuple #[])) 33 (.tuple #[])) 34 (.tuple #[]),H23,n+37))
 ).bind fun (q27:R3) =>
 (Zw (q27.1 29) (q27.1 34) (.bool false)).bind fun v34 =>
 some (v34,q27.2.1,q27.2.2))
 ((Zr .plain .eql v18 (.int .i64 2)).bind fun v35 =>
 csel v35
 ((Zo 3 (ptr (n+7) 0)).bind fun v36 =>
 (ld false 1 v36 H16).bind fun v37 =>
 (Zr .plain .eql v37 (.string ⟨#[]⟩)).bind fun v38 =>
 let t40:Tm:=put (put (put (put (put (put (put (put (put (put (put (put (put (put (put (put (put (put (put (put (put (put (put (put (put (put t 2 (ptr (n) 0)) 4 (.bool false)) 8 v3) 9 v4) 10 (t 1)) 11 v5) 12 v6) 5 (ptr (n+7) 0)) 13 v9) 14 v10) 15 v11) 6 v11) 16 v12) 17 v13) 18 v14) 7 (ptr (n+16) 0)) 19 v17) 20 v18) 22 v19) 21 v19) 37 v35) 36 v35) 38 v36) 39 v37) 40 v38) 41 v38
 (gsel v38 true
 ((Zo 1 (ptr (n+7) 0)).bind fun v41 =>
 (ld false 1 v41 H16).bind fun v42 =>
 (C 61 [v42,.int .i64 0,.int .i64 20] H16 (n+38)).bind fun q43 =>
 some (put (put (put t40 42 v41) 43 v42) 44 q43.1,q43.2.1,q43.2.2))
 (some (put (put (put t40 42 (.tuple #[])) 43 (.tuple #[])) 44 (.tuple #[]),H16,n+38))
 ).bind fun (q39:R3) =>
 (Zw (q39.1 41) (q39.1 44) (.bool false)).bind fun v44 =>
 let t46:Tm:=put (put q39.1 45 v44) 46 v44
 (gsel v44 true
 ((Zo 2 (t46 5)).bind fun v47 =>
 (ld false 1 v47 q39.2.1).bind fun v48 =>
 (C 61 [v48,.int .i64 0,.int .i64 3] q39.2.1 (q39.2.2)).bind fun q49 =>
 some (put (put (put t46 47 v47) 48 v48) 49 q49.1,q49.2.1,q49.2.2))
 (some (put (put (put t46 47 (.tuple #[])) 48 (.tuple #[])) 49 (.tuple #[]),q39.2.1,q39.2.2))
 ).bind fun (q45:R3) =>
 (Zw (q45.1 46) (q45.1 49) (.bool false)).bind fun v50 =>
 some (v50,q45.2.1,q45.2.2))
 ((Zr .plain .eql v18 (.int .i64 3)).bind fun v51 =>
 csel v51
 ((Zo 3 (ptr (n+7) 0)).bind fun v52 =>
 (ld false 1 v52 H16).bind fun v53 =>
 (Zo 3 (ptr (n+16) 0)).bind fun v54 =>
 (st false 1 v54 v53 H16).bind fun H55 =>
 (ld true 4 (ptr (n+7) 0) H55).bind fun v56 =>
 (ld true 4 (ptr (n+16) 0) H55).bind fun v57 =>
 (Zr (.agg [(0,(.int .i64)),(1,(.int .i64)),(2,(.int .i64)),(3,.string)]) .eql v56 v57).bind fun v58 =>
 let t60:Tm:=put (put (put (put (put (put (put (put (put (put (put (put (put (put (put (put (put (put (put (put (put (put (put (put (put (put (put (put (put (put (put t 2 (ptr (n) 0)) 4 (.bool false)) 8 v3) 9 v4) 10 (t 1)) 11 v5) 12 v6) 5 (ptr (n+7) 0)) 13 v9) 14 v10) 15 v11) 6 v11) 16 v12) 17 v13) 18 v14) 7 (ptr (n+16) 0)) 19 v17) 20 v18) 22 v19) 21 v19) 37 v35) 36 v35) 52 v51) 51 v51) 53 v52) 54 v53) 55 v54) 56 v56) 57 v57) 58 v58) 59 v58
 (gsel v58 true
 ((Zo 3 (ptr (n+7) 0)).bind fun v61 =>
 (ld false 1 v61 H55).bind fun v62 =>
 (C 60 [v62] H55 (n+39)).bind fun q63 =>
 some (put (put (put t60 60 v61) 61 v62) 62 q63.1,q63.2.1,q63.2.2))
 (some (put (put (put t60 60 (.tuple #[])) 61 (.tuple #[])) 62 (.tuple #[]),H55,n+39))
 ).bind fun (q59:R3) =>
 (Zw (q59.1 59) (q59.1 62) (.bool false)).bind fun v64 =>
 some (v64,q59.2.1,q59.2.2))
 ((Zr .plain .eql v18 (.int .i64 4)).bind fun v65 =>
 let t67:Tm:=put (put (put (put (put (put (put (put (put (put (put (put (put (put (put (put (put (put (put (put (put (put (put (put (put (put t 2 (ptr (n) 0)) 4 (.bool false)) 8 v3) 9 v4) 10 (t 1)) 11 v5) 12 v6) 5 (ptr (n+7) 0)) 13 v9) 14 v10) 15 v11) 6 v11) 16 v12) 17 v13) 18 v14) 7 (ptr (n+16) 0)) 19 v17) 20 v18) 22 v19) 21 v19) 37 v35) 36 v35) 52 v51) 51 v51) 65 v65) 64 v65
 (csel v65
 (some ⟨.normal,t67,H16,n+28⟩)
 ((Zr .plain .eql v18 (.int .i64 5)).bind fun v68 =>
 some ⟨.normal,put (put t67 66 v68) 64 v68,H16,n+30⟩)
 ).bind fun (o66:Out) =>
 csel (o66.t 64)
 ((Zo 1 (o66.t 5)).bind fun v69 =>
 (ld false 1 v69 o66.H).bind fun v70 =>
 (Zo 1 (o66.t 7)).bind fun v71 =>
 (st false 1 v71 v70 o66.H).bind fun H72 =>
 (ld true 4 (o66.t 5) H72).bind fun v73 =>
 (ld true 4 (o66.t 7) H72).bind fun v74 =>
 (Zr (.agg [(0,(.int .i64)),(1,(.int .i64)),(2,(.int .i64)),(3,.string)]) .eql v73 v74).bind fun v75 =>
 let t77:Tm:=put (put (put (put (put (put (put o66.t 67 v69) 68 v70) 69 v71) 70 v73) 71 v74) 72 v75) 73 v75
 (gsel v75 true
 ((Zo 1 (t77 5)).bind fun v78 =>
 (ld false 1 v78 H72).bind fun v79 =>
 (Zr .plain .gtr v79 (t77 1)).bind fun v80 =>
 some (put (put (put (put t77 74 v78) 75 v79) 76 (t77 1)) 77 v80,H72,o66.n+20))
 (some (put (put (put (put t77 74 (.tuple #[])) 75 (.tuple #[])) 76 (.tuple #[])) 77 (.tuple #[]),H72,o66.n+20))
 ).bind fun (q76:R3) =>
 (Zw (q76.1 73) (q76.1 77) (.bool false)).bind fun v81 =>
 let t83:Tm:=put (put q76.1 78 v81) 79 v81
 (gsel v81 true
 ((Zo 1 (t83 5)).bind fun v84 =>
 (ld false 1 v84 q76.2.1).bind fun v85 =>
 (Zr .plain .leq v85 (t83 6)).bind fun v86 =>
 some (put (put (put (put t83 80 v84) 81 v85) 82 (t83 6)) 83 v86,q76.2.1,q76.2.2))
 (some (put (put (put (put t83 80 (.tuple #[])) 81 (.tuple #[])) 82 (.tuple #[])) 83 (.tuple #[]),q76.2.1,q76.2.2))
 ).bind fun (q82:R3) =>
 (Zw (q82.1 79) (q82.1 83) (.bool false)).bind fun v87 =>
 some (v87,q82.2.1,q82.2.2))
 ((Zr .plain .eql (o66.t 20) (.int .i64 6)).bind fun v88 =>
 csel v88
 ((Zo 3 (o66.t 5)).bind fun v89 =>
 (ld false 1 v89 o66.H).bind fun v90 =>
 (Zr .plain .eql v90 (.string ⟨#[]⟩)).bind fun v91 =>
 let t93:Tm:=put (put (put (put (put (put o66.t 86 v88) 85 v88) 87 v89) 88 v90) 89 v91) 90 v91
 (gsel v91 true
 ((Zo 1 (t93 5)).bind fun v94 =>
 (ld false 1 v94 o66.H).bind fun v95 =>
 (Zr .plain .gtr v95 (t93 1)).bind fun v96 =>
 some (put (put (put (put t93 91 v94) 92 v95) 93 (t93 1)) 94 v96,o66.H,o66.n+23))
 (some (put (put (put (put t93 91 (.tuple #[])) 92 (.tuple #[])) 93 (.tuple #[])) 94 (.tuple #[]),o66.H,o66.n+23))
 ).bind fun (q92:R3) =>
 (Zw (q92.1 90) (q92.1 94) (.bool false)).bind fun v97 =>
 let t99:Tm:=put (put q92.1 95 v97) 96 v97
 (gsel v97 true
 ((Zo 1 (t99 5)).bind fun v100 =>
 (ld false 1 v100 q92.2.1).bind fun v101 =>
 (Zr .plain .lss v101 (t99 6)).bind fun v102 =>
 some (put (put (put (put t99 97 v100) 98 v101) 99 (t99 6)) 100 v102,q92.2.1,q92.2.2))
 (some (put (put (put (put t99 97 (.tuple #[])) 98 (.tuple #[])) 99 (.tuple #[])) 100 (.tuple #[]),q92.2.1,q92.2.2))
 ).bind fun (q98:R3) =>
 (Zw (q98.1 96) (q98.1 100) (.bool false)).bind fun v103 =>
 let t105:Tm:=put (put q98.1 101 v103) 102 v103
 (gsel v103 true
 ((Zo 2 (t105 5)).bind fun v106 =>
 (ld false 1 v106 q98.2.1).bind fun v107 =>
 (C 61 [v107,.int .i64 0,.int .i64 4] q98.2.1 (q98.2.2)).bind fun q108 =>
 some (put (put (put t105 103 v106) 104 v107) 105 q108.1,q108.2.1,q108.2.2))
 (some (put (put (put t105 103 (.tuple #[])) 104 (.tuple #[])) 105 (.tuple #[]),q98.2.1,q98.2.2))
 ).bind fun (q104:R3) =>
 (Zw (q104.1 102) (q104.1 105) (.bool false)).bind fun v109 =>
 some (v109,q104.2.1,q104.2.2))
 ((Zr .plain .eql (o66.t 20) (.int .i64 7)).bind fun v110 =>
 csel v110
 ((Zo 2 (o66.t 5)).bind fun v111 =>
 (ld false 1 v111 o66.H).bind fun v112 =>
 (Zo 2 (o66.t 7)).bind fun v113 =>
 (st false 1 v113 v112 o66.H).bind fun H114 =>
 (ld true 4 (o66.t 5) H114).bind fun v115 =>
 (ld true 4 (o66.t 7) H114).bind fun v116 =>
 (Zr (.agg [(0,(.int .i64)),(1,(.int .i64)),(2,(.int .i64)),(3,.string)]) .eql v115 v116).bind fun v117 =>
 let t119:Tm:=put (put (put (put (put (put (put (put (put (put (put o66.t 86 v88) 85 v88) 108 v110) 107 v110) 109 v111) 110 v112) 111 v113) 112 v115) 113 v116) 114 v117) 115 v117
 (gsel v117 true
 ((Zo 2 (t119 5)).bind fun v120 =>
 (ld false 1 v120 H114).bind fun v121 =>
 (C 61 [v121,.int .i64 0,.int .i64 4] H114 (o66.n+17)).bind fun q122 =>
 some (put (put (put t119 116 v120) 117 v121) 118 q122.1,q122.2.1,q122.2.2))
 (some (put (put (put t119 116 (.tuple #[])) 117 (.tuple #[])) 118 (.tuple #[]),H114,o66.n+17))
 ).bind fun (q118:R3) =>
 (Zw (q118.1 115) (q118.1 118) (.bool false)).bind fun v123 =>
 some (v123,q118.2.1,q118.2.2))
 ((Zr .plain .eql (o66.t 20) (.int .i64 8)).bind fun v124 =>
 let t126:Tm:=put (put (put (put (put (put o66.t 86 v88) 85 v88) 108 v110) 107 v110) 121 v124) 120 v124
 (csel v124
 (some ⟨.normal,t126,o66.H,o66.n+6⟩)
 ((Zr .plain .eql (t126 20) (.int .i64 9)).bind fun v127 =>
 some ⟨.normal,put (put t126 122 v127) 120 v127,o66.H,o66.n+8⟩)
 ).bind fun (o125:Out) =>
 csel (o125.t 120)
 ((ld true 4 (o125.t 5) o125.H).bind fun v128 =>
 (ld true 4 (o125.t 7) o125.H).bind fun v129 =>
 (Zr (.agg [(0,(.int .i64)),(1,(.int .i64)),(2,(.int .i64)),(3,.string)]) .eql v128 v129).bind fun v130 =>
 some (v130,o125.H,o125.n+4))
 (some (.bool false,o125.H,o125.n+1))))))))
theorem s59 (C:Zp) (L:Zs→Zs) (t:Tm) (H:Hp) (n:Nat):bodyK Try.prog C L Try.f59 t H n=S59 C L t H n:=by kernel_rfl
theorem c59 (args:List Value) (H:Hp) (n:Nat):Call Try.prog 59 args H n=S59 (Call Try.prog) Yf (Yg args) H n:=(Zu Try.func59 args H n).trans (s59 ..)
noncomputable def S60L0 (C:Zp) (L:Zs→Zs):Zs:=fun t H n =>
 (lenV true (t 0)).bind fun v2 =>
 (Zr .plain .lss (t 3) v2).bind fun v3 =>
 csel v3
 ((idxS (t 0) (t 3)).bind fun v4 =>
 (C 100 [v4] H (n+9)).bind fun q5 =>
 (un .not q5.1).bind fun v6 =>
 csel v6
 (some ⟨.ret,put (put (put (put (put (put (put (put (put (put t 4 (t 3)) 5 (t 0)) 6 v2) 7 v3) 10 (t 0)) 11 (t 3)) 12 v4) 13 q5.1) 14 v6) 2 (.bool false),q5.2.1,q5.2.2+1⟩)
 ((Zr .plain .add (t 3) (.int .i64 1)).bind fun v7 =>
 some ⟨.normal,put (put (put (put (put (put (put (put (put (put (put (put t 4 (t 3)) 5 (t 0)) 6 v2) 7 v3) 10 (t 0)) 11 (t 3)) 12 v4) 13 q5.1) 14 v6) 8 (t 3)) 9 v7) 3 v7,q5.2.1,q5.2.2+3⟩))
 (some ⟨(.exit 0),put (put (put (put t 4 (t 3)) 5 (t 0)) 6 v2) 7 v3,H,n+4⟩)
noncomputable def S60 (C:Zp) (L:Zs→Zs) (t:Tm) (H:Hp) (n:Nat):Option (Value × Hp × Nat) :=
 (L (S60L0 C L) (put (put t 2 (.bool false)) 3 (.int .i64 0)) H (n+2)).bind fun (o1:Out) =>
 let o8:=outOf 0 o1
 thenK o8
 ((lenV true (o8.t 0)).bind fun v9 =>
 (C 61 [v9,.int .i64 1,.int .i64 12] o8.H (o8.n+4)).bind fun q10 =>
 some (q10.1,q10.2.1,q10.2.2))
 (finE o8.e
 (some (o8.t 2,o8.H,o8.n)))
theorem s60 (C:Zp) (L:Zs→Zs) (t:Tm) (H:Hp) (n:Nat):bodyK Try.prog C L Try.f60 t H n=S60 C L t H n:=by kernel_rfl
theorem c60 (args:List Value) (H:Hp) (n:Nat):Call Try.prog 60 args H n=S60 (Call Try.prog) Yf (Yg args) H n:=(Zu Try.func60 args H n).trans (s60 ..)
noncomputable def S61 (C:Zp) (L:Zs→Zs) (t:Tm) (H:Hp) (n:Nat):Option (Value × Hp × Nat) :=
 (Zr .plain .geq (t 0) (t 1)).bind fun v1 =>
 let t3:Tm:=put (put (put (put (put t 6 (.bool false)) 7 (t 0)) 8 (t 1)) 9 v1) 10 v1
 (gsel v1 true
 ((Zr .plain .leq (t3 0) (t3 2)).bind fun v4 =>
 some (put (put (put t3 11 (t3 0)) 12 (t3 2)) 13 v4,H,n+10))
 (some (put (put (put t3 11 (.tuple #[])) 12 (.tuple #[])) 13 (.tuple #[]),H,n+10))
 ).bind fun (q2:R3) =>
 (Zw (q2.1 10) (q2.1 13) (.bool false)).bind fun v5 =>
 some (v5,q2.2.1,q2.2.2)
theorem s61 (C:Zp) (L:Zs→Zs) (t:Tm) (H:Hp) (n:Nat):bodyK Try.prog C L Try.f61 t H n=S61 C L t H n:=by kernel_rfl
theorem c61 (args:List Value) (H:Hp) (n:Nat):Call Try.prog 61 args H n=S61 (Call Try.prog) Yf (Yg args) H n:=(Zu Try.func61 args H n).trans (s61 ..)
noncomputable def S62 (C:Zp) (L:Zs→Zs) (t:Tm) (H:Hp) (n:Nat):Option (Value × Hp × Nat) :=
 (lenV false (t 1)).bind fun v1 =>
 (C 38 [t 0,v1] H (n+9)).bind fun q2 =>
 (idxA 1 (t 1) q2.1).bind fun v3 =>
 (ld false 1 v3 q2.2.1).bind fun v4 =>
 some (v4,q2.2.1,q2.2.2)
theorem s62 (C:Zp) (L:Zs→Zs) (t:Tm) (H:Hp) (n:Nat):bodyK Try.prog C L Try.f62 t H n=S62 C L t H n:=by kernel_rfl
theorem c62 (args:List Value) (H:Hp) (n:Nat):Call Try.prog 62 args H n=S62 (Call Try.prog) Yf (Yg args) H n:=(Zu Try.func62 args H n).trans (s62 ..)
noncomputable def S63 (C:Zp) (L:Zs→Zs) (t:Tm) (H:Hp) (n:Nat):Option (Value × Hp × Nat) :=
 (vcells (t 0)).bind fun c2 =>
 let H1:=H.set (n) (some (.row c2 0 true))
 (Zo 1 (ptr (n) 0)).bind fun v3 =>
 (ld false 1 v3 H1).bind fun v4 =>
 (lenV false v4).bind fun v5 =>
 (Zr .plain .sub v5 (.int .i64 1)).bind fun v6 =>
 (C 56 [t 1,.int .i64 0,v6] H1 (n+9)).bind fun q7 =>
 some (q7.1,q7.2.1,q7.2.2)
theorem s63 (C:Zp) (L:Zs→Zs) (t:Tm) (H:Hp) (n:Nat):bodyK Try.prog C L Try.f63 t H n=S63 C L t H n:=by kernel_rfl
theorem c63 (args:List Value) (H:Hp) (n:Nat):Call Try.prog 63 args H n=S63 (Call Try.prog) Yf (Yg args) H n:=(Zu Try.func63 args H n).trans (s63 ..)
noncomputable def S64 (C:Zp) (L:Zs→Zs) (t:Tm) (H:Hp) (n:Nat):Option (Value × Hp × Nat) :=
 (vcells (t 1)).bind fun c2 =>
 let H1:=H.set (n) (some (.row c2 0 true))
 (Ye (t 0)).bind fun v3 =>
 (Zo 0 v3).bind fun v4 =>
 (ld false 1 v4 H1).bind fun v5 =>
 (ld true 5 (ptr (n) 0) H1).bind fun v6 =>
 (bsl (n+8) 5 1 [.int .i64 0,.int .i64 0,.string ⟨#[]⟩,.int .i64 0,.int .i64 0] [(0,5,v6)] H1).bind fun p7 =>
 (app (n+9) 5 48 v5 p7.1 p7.2).bind fun p8 =>
 (Ye (t 0)).bind fun v9 =>
 (Zo 0 v9).bind fun v10 =>
 (st false 1 v10 p8.1 p8.2).bind fun H11 =>
 (Ye (t 0)).bind fun v12 =>
 (Zo 0 v12).bind fun v13 =>
 (ld false 1 v13 H11).bind fun v14 =>
 (lenV false v14).bind fun v15 =>
 (Zr .plain .sub v15 (.int .i64 1)).bind fun v16 =>
 some (v16,H11,n+20)
theorem s64 (C:Zp) (L:Zs→Zs) (t:Tm) (H:Hp) (n:Nat):bodyK Try.prog C L Try.f64 t H n=S64 C L t H n:=by kernel_rfl
theorem c64 (args:List Value) (H:Hp) (n:Nat):Call Try.prog 64 args H n=S64 (Call Try.prog) Yf (Yg args) H n:=(Zu Try.func64 args H n).trans (s64 ..)
noncomputable def S65 (C:Zp) (L:Zs→Zs) (t:Tm) (H:Hp) (n:Nat):Option (Value × Hp × Nat) :=
 (bld [.int .i64 0,.int .i64 0,.string ⟨#[]⟩,.int .i64 0,.int .i64 0] [(0,1,.int .i64 5),(3,1,t 1),(4,1,t 2)]).bind fun v1 =>
 (C 64 [t 0,v1] H (n+7)).bind fun q2 =>
 some (q2.1,q2.2.1,q2.2.2)
theorem s65 (C:Zp) (L:Zs→Zs) (t:Tm) (H:Hp) (n:Nat):bodyK Try.prog C L Try.f65 t H n=S65 C L t H n:=by kernel_rfl
theorem c65 (args:List Value) (H:Hp) (n:Nat):Call Try.prog 65 args H n=S65 (Call Try.prog) Yf (Yg args) H n:=(Zu Try.func65 args H n).trans (s65 ..)
noncomputable def S77 (C:Zp) (L:Zs→Zs) (t:Tm) (H:Hp) (n:Nat):Option (Value × Hp × Nat) :=
 (bsl (n+1) 1 18 [.string ⟨#[]⟩] [(0,1,.string ⟨#[40,100,101,102,105,110,101,32,40,102,32,110,41,32,40,105,102,32,40,60,32,110,32,50,41,32,110,32,40,43,32,40,102,32,40,45,32,110,32,49,41,41,32,40,102,32,40,45,32,110,32,50,41,41,41,41,41,32,40,102,32,54,41]⟩),(1,1,.string ⟨#[40,100,101,102,105,110,101,32,40,117,112,32,110,41,32,40,105,102,32,40,60,32,110,32,51,41,32,40,100,111,32,40,112,114,105,110,116,32,110,41,32,40,117,112,32,40,43,32,110,32,49,41,41,41,32,110,41,41,32,40,117,112,32,48,41]⟩),(2,1,.string ⟨#[40,108,101,116,32,120,32,53,32,40,108,101,116,32,102,32,40,102,110,32,40,121,41,32,40,43,32,120,32,121,41,41,32,40,112,114,105,110,116,32,40,102,32,52,41,41,41,41]⟩),(3,1,.string ⟨#[40,112,114,105,110,116,32,40,99,97,108,108,99,99,32,40,102,110,32,40,107,41,32,40,100,111,32,40,107,32,55,41,32,56,41,41,41,41]⟩),(4,1,.string ⟨#[40,100,101,102,105,110,101,32,40,109,97,112,32,102,32,108,41,32,40,105,102,32,40,110,117,108,108,63,32,108,41,32,40,41,32,40,99,111,110,115,32,40,102,32,40,99,97,114,32,108,41,41,32,40,109,97,112,32,102,32,40,99,100,114,32,108,41,41,41,41,41,32,40,112,114,105,110,116,32,40,109,97,112,32,40,102,110,32,40,120,41,32,40,42,32,120,32,120,41,41,32,40,113,117,111,116,101,32,40,49,32,50,32,51,41,41,41,41]⟩),(5,1,.string ⟨#[40,100,111,32,40,115,112,97,119,110,32,40,102,110,32,40,41,32,40,100,111,32,40,112,114,105,110,116,32,49,41,32,40,112,114,105,110,116,32,50,41,41,41,41,32,40,112,114,105,110,116,32,51,41,41]⟩),(6,1,.string ⟨#[40,108,101,116,32,112,32,40,115,112,97,119,110,32,40,102,110,32,40,41,32,40,112,114,105,110,116,32,40,114,101,99,118,41,41,41,41,32,40,100,111,32,40,115,101,110,100,32,112,32,40,113,117,111,116,101,32,40,97,32,98,41,41,41,32,48,41,41]⟩),(7,1,.string ⟨#[40,108,101,116,32,112,32,40,115,112,97,119,110,32,40,102,110,32,40,41,32,40,108,101,116,32,102,32,40,114,101,99,118,41,32,40,112,114,105,110,116,32,40,102,32,53,41,41,41,41,41,32,40,108,101,116,32,122,32,57,32,40,115,101,110,100,32,112,32,40,102,110,32,40,120,41,32,40,43,32,120,32,122,41,41,41,41,41]⟩),(8,1,.string ⟨#[40,100,111,32,40,112,114,105,110,116,32,49,41,32,40,103,111,32,49,41,32,40,112,114,105,110,116,32,50,41,32,40,103,111,32,48,41,32,40,112,114,105,110,116,32,51,41,41]⟩),(9,1,.string ⟨#[40,108,101,116,32,109,101,32,40,115,101,108,102,41,32,40,100,111,32,40,115,112,97,119,110,32,40,102,110,32,40,41,32,40,100,111,32,40,103,111,32,49,41,32,40,115,101,110,100,32,109,101,32,52,50,41,41,41,41,32,40,112,114,105,110,116,32,40,114,101,99,118,41,41,41,41]⟩),(10,1,.string ⟨#[40,100,101,102,105,110,101,32,40,108,111,111,112,32,110,41,32,40,105,102,32,40,61,32,110,32,48,41,32,40,112,114,105,110,116,32,40,113,117,111,116,101,32,101,110,100,41,41,32,40,108,111,111,112,32,40,45,32,110,32,49,41,41,41,41,32,40,108,111,111,112,32,57,41]⟩),(11,1,.string ⟨#[40,112,114,105,110,116,32,40,99,97,114,32,40,113,117,111,116,101,32,40,41,41,41,41]⟩),(12,1,.string ⟨#[40,112,114,105,110,116,32,40,102,32,49,41,41]⟩),(13,1,.string ⟨#[40,43,32,49,32,35,116,41]⟩),(14,1,.string ⟨#[40,112,114,105,110,116,32,40,99,111,110,115,32,49,32,40,99,111,110,115,32,50,32,40,41,41,41,41]⟩),(15,1,.string ⟨#[40,100,101,102,105,110,101,32,40,112,105,110,103,32,112,32,110,41,32,40,105,102,32,40,60,32,110,32,49,41,32,48,32,40,100,111,32,40,115,101,110,100,32,112,32,110,41,32,40,112,114,105,110,116,32,40,114,101,99,118,41,41,32,40,112,105,110,103,32,112,32,40,45,32,110,32,49,41,41,41,41,41,32,40,108,101,116,32,109,101,32,40,115,101,108,102,41,32,40,112,105,110,103,32,40,115,112,97,119,110,32,40,102,110,32,40,41,32,40,100,111,32,40,103,111,32,49,41,32,40,115,101,110,100,32,109,101,32,40,43,32,49,48,32,40,114,101,99,118,41,41,41,32,40,115,101,110,100,32,109,101,32,40,43,32,49,48,32,40,114,101,99,118,41,41,41,41,41,41,32,50,41,41]⟩),(16,1,.string ⟨#[40,108,101,116,32,107,32,40,99,97,108,108,99,99,32,40,102,110,32,40,99,41,32,99,41,41,32,40,105,102,32,40,112,97,105,114,63,32,107,41,32,40,112,114,105,110,116,32,40,99,97,114,32,107,41,41,32,40,107,32,40,113,117,111,116,101,32,40,53,41,41,41,41,41]⟩),(17,1,.string ⟨#[40,108,101,116,32,112,32,40,115,112,97,119,110,32,40,102,110,32,40,41,32,40,100,111,32,40,103,111,32,49,41,32,40,108,101,116,32,107,32,40,114,101,99,118,41,32,40,107,32,56,41,41,41,41,41,32,40,112,114,105,110,116,32,40,99,97,108,108,99,99,32,40,102,110,32,40,107,41,32,40,100,111,32,40,115,101,110,100,32,112,32,107,41,32,51,41,41,41,41,41]⟩)] H).bind fun p1 =>
 some (p1.1,p1.2,n+3)
theorem s77 (C:Zp) (L:Zs→Zs) (t:Tm) (H:Hp) (n:Nat):bodyK Try.prog C L Try.f77 t H n=S77 C L t H n:=by kernel_rfl
theorem c77 (args:List Value) (H:Hp) (n:Nat):Call Try.prog 77 args H n=S77 (Call Try.prog) Yf (Yg args) H n:=(Zu Try.func77 args H n).trans (s77 ..)
noncomputable def S78 (C:Zp) (L:Zs→Zs) (t:Tm) (H:Hp) (n:Nat):Option (Value × Hp × Nat) :=
 (Zr .plain .leq (t 1) (.int .i64 0)).bind fun v1 =>
 csel v1
 ((bsl (n+4) 1 9 [.string ⟨#[]⟩] [(0,1,.string ⟨#[49]⟩),(1,1,.string ⟨#[120]⟩),(2,1,.string ⟨#[121]⟩),(3,1,.string ⟨#[45,50]⟩),(4,1,.string ⟨#[35,116]⟩),(5,1,.string ⟨#[40,41]⟩),(6,1,.string ⟨#[102]⟩),(7,1,.string ⟨#[40,113,117,111,116,101,32,97,41]⟩),(8,1,.string ⟨#[48]⟩)] H).bind fun p2 =>
 (C 58 [t 0,p2.1] p2.2 (n+7)).bind fun q3 =>
 some (q3.1,q3.2.1,q3.2.2))
 ((Zr .plain .sub (t 1) (.int .i64 1)).bind fun v4 =>
 (C 78 [t 0,v4] H (n+8)).bind fun q5 =>
 (Zr .plain .sub (t 1) (.int .i64 1)).bind fun v6 =>
 (C 78 [t 0,v6] q5.2.1 (q5.2.2+5)).bind fun q7 =>
 (C 38 [t 0,.int .i64 9] q7.2.1 (q7.2.2+2)).bind fun q8 =>
 (Zr .plain .eql q8.1 (.int .i64 0)).bind fun v9 =>
 csel v9
 ((Zr .plain .add (.string ⟨#[40,105,102,32]⟩) q5.1).bind fun v10 =>
 (Zr .plain .add v10 (.string ⟨#[32]⟩)).bind fun v11 =>
 (Zr .plain .add v11 q7.1).bind fun v12 =>
 (Zr .plain .add v12 (.string ⟨#[32]⟩)).bind fun v13 =>
 (Zr .plain .sub (t 1) (.int .i64 2)).bind fun v14 =>
 (C 78 [t 0,v14] q8.2.1 (q8.2.2+15)).bind fun q15 =>
 (Zr .plain .add v13 q15.1).bind fun v16 =>
 (Zr .plain .add v16 (.string ⟨#[41]⟩)).bind fun v17 =>
 some (v17,q15.2.1,q15.2.2))
 ((Zr .plain .eql q8.1 (.int .i64 1)).bind fun v18 =>
 csel v18
 ((Zr .plain .add (.string ⟨#[40,102,110,32,40,120,32,121,41,32]⟩) q5.1).bind fun v19 =>
 (Zr .plain .add v19 (.string ⟨#[41]⟩)).bind fun v20 =>
 some (v20,q8.2.1,q8.2.2+8))
 ((Zr .plain .eql q8.1 (.int .i64 2)).bind fun v21 =>
 csel v21
 ((Zr .plain .add (.string ⟨#[40,108,101,116,32,120,32]⟩) q5.1).bind fun v22 =>
 (Zr .plain .add v22 (.string ⟨#[32]⟩)).bind fun v23 =>
 (Zr .plain .add v23 q7.1).bind fun v24 =>
 (Zr .plain .add v24 (.string ⟨#[41]⟩)).bind fun v25 =>
 some (v25,q8.2.1,q8.2.2+13))
 ((Zr .plain .eql q8.1 (.int .i64 3)).bind fun v26 =>
 csel v26
 ((Zr .plain .add (.string ⟨#[40,100,111,32]⟩) q5.1).bind fun v27 =>
 (Zr .plain .add v27 (.string ⟨#[32]⟩)).bind fun v28 =>
 (Zr .plain .add v28 q7.1).bind fun v29 =>
 (Zr .plain .add v29 (.string ⟨#[41]⟩)).bind fun v30 =>
 some (v30,q8.2.1,q8.2.2+15))
 ((Zr .plain .eql q8.1 (.int .i64 4)).bind fun v31 =>
 csel v31
 ((Zr .plain .add (.string ⟨#[40,112,114,105,110,116,32]⟩) q5.1).bind fun v32 =>
 (Zr .plain .add v32 (.string ⟨#[41]⟩)).bind fun v33 =>
 some (v33,q8.2.1,q8.2.2+14))
 ((Zr .plain .eql q8.1 (.int .i64 5)).bind fun v34 =>
 csel v34
 ((Zr .plain .add (.string ⟨#[40,40,102,110,32,40,121,41,32]⟩) q5.1).bind fun v35 =>
 (Zr .plain .add v35 (.string ⟨#[41,32]⟩)).bind fun v36 =>
 (Zr .plain .add v36 q7.1).bind fun v37 =>
 (Zr .plain .add v37 (.string ⟨#[41]⟩)).bind fun v38 =>
 some (v38,q8.2.1,q8.2.2+19))
 ((Zr .plain .eql q8.1 (.int .i64 6)).bind fun v39 =>
 csel v39
 ((bsl (q8.2.2+15) 1 7 [.string ⟨#[]⟩] [(0,1,.string ⟨#[43]⟩),(1,1,.string ⟨#[45]⟩),(2,1,.string ⟨#[42]⟩),(3,1,.string ⟨#[60]⟩),(4,1,.string ⟨#[61]⟩),(5,1,.string ⟨#[99,111,110,115]⟩),(6,1,.string ⟨#[101,113,63]⟩)] q8.2.1).bind fun p40 =>
 (C 58 [t 0,p40.1] p40.2 (q8.2.2+26)).bind fun q41 =>
 (Zr .plain .add (.string ⟨#[40]⟩) q41.1).bind fun v42 =>
 (Zr .plain .add v42 (.string ⟨#[32]⟩)).bind fun v43 =>
 (Zr .plain .add v43 q5.1).bind fun v44 =>
 (Zr .plain .add v44 (.string ⟨#[32]⟩)).bind fun v45 =>
 (Zr .plain .add v45 q7.1).bind fun v46 =>
 (Zr .plain .add v46 (.string ⟨#[41]⟩)).bind fun v47 =>
 some (v47,q41.2.1,q41.2.2))
 ((Zr .plain .eql q8.1 (.int .i64 7)).bind fun v48 =>
 csel v48
 ((bsl (q8.2.2+17) 1 6 [.string ⟨#[]⟩] [(0,1,.string ⟨#[99,97,114]⟩),(1,1,.string ⟨#[99,100,114]⟩),(2,1,.string ⟨#[110,117,108,108,63]⟩),(3,1,.string ⟨#[112,97,105,114,63]⟩),(4,1,.string ⟨#[110,111,116]⟩),(5,1,.string ⟨#[99,97,108,108,99,99]⟩)] q8.2.1).bind fun p49 =>
 (C 58 [t 0,p49.1] p49.2 (q8.2.2+25)).bind fun q50 =>
 (Zr .plain .add (.string ⟨#[40]⟩) q50.1).bind fun v51 =>
 (Zr .plain .add v51 (.string ⟨#[32]⟩)).bind fun v52 =>
 (Zr .plain .add v52 q5.1).bind fun v53 =>
 (Zr .plain .add v53 (.string ⟨#[41]⟩)).bind fun v54 =>
 some (v54,q50.2.1,q50.2.2))
 (some (q5.1,q8.2.1,q8.2.2+18))))))))))
theorem s78 (C:Zp) (L:Zs→Zs) (t:Tm) (H:Hp) (n:Nat):bodyK Try.prog C L Try.f78 t H n=S78 C L t H n:=by kernel_rfl
theorem c78 (args:List Value) (H:Hp) (n:Nat):Call Try.prog 78 args H n=S78 (Call Try.prog) Yf (Yg args) H n:=(Zu Try.func78 args H n).trans (s78 ..)
noncomputable def S79 (C:Zp) (L:Zs→Zs) (t:Tm) (H:Hp) (n:Nat):Option (Value × Hp × Nat) :=
 (Zr .plain .lss (t 0) (t 1)).bind fun v1 =>
 csel v1
 (some (t 0,H,n+6))
 (some (t 1,H,n+6))
theorem s79 (C:Zp) (L:Zs→Zs) (t:Tm) (H:Hp) (n:Nat):bodyK Try.prog C L Try.f79 t H n=S79 C L t H n:=by kernel_rfl
theorem c79 (args:List Value) (H:Hp) (n:Nat):Call Try.prog 79 args H n=S79 (Call Try.prog) Yf (Yg args) H n:=(Zu Try.func79 args H n).trans (s79 ..)
noncomputable def S80L0 (C:Zp) (L:Zs→Zs):Zs:=fun t H n =>
 (Zr .plain .geq (t 6) (.int .i64 0)).bind fun v6 =>
 csel v6
 ((idxA 1 (t 1) (t 6)).bind fun v7 =>
 (ld false 1 v7 H).bind fun v8 =>
 (bld [.int .i64 0,.int .i64 0,.string ⟨#[]⟩,.int .i64 0,.int .i64 0] [(0,1,.int .i64 5),(3,1,v8),(4,1,t 5)]).bind fun v9 =>
 (C 41 [t 0,v9] H (n+11)).bind fun q10 =>
 (Zr .plain .sub (t 6) (.int .i64 1)).bind fun v11 =>
 some ⟨.normal,put (put (put (put (put (put (put (put (put (put (put (put (put (put t 13 (t 6)) 14 v6) 17 (t 0)) 18 (t 1)) 19 (t 6)) 20 v7) 21 v8) 22 (t 5)) 23 v9) 24 q10.1) 5 q10.1) 15 (t 6)) 16 v11) 6 v11,q10.2.1,q10.2.2+3⟩)
 (some ⟨(.exit 0),put (put t 13 (t 6)) 14 v6,H,n+2⟩)
noncomputable def S80 (C:Zp) (L:Zs→Zs) (t:Tm) (H:Hp) (n:Nat):Option (Value × Hp × Nat) :=
 (bld [.int .i64 0,.int .i64 0,.string ⟨#[]⟩,.int .i64 0,.int .i64 0] [(0,1,.int .i64 1)]).bind fun v1 =>
 (C 41 [t 0,v1] H (n+5)).bind fun q2 =>
 (lenV false (t 1)).bind fun v3 =>
 (Zr .plain .sub v3 (.int .i64 1)).bind fun v4 =>
 (L (S80L0 C L) (put (put (put (put (put (put (put (put (put t 4 (.int .i64 0)) 7 (t 0)) 8 v1) 9 q2.1) 5 q2.1) 10 (t 1)) 11 v3) 12 v4) 6 v4) q2.2.1 (q2.2.2+4)).bind fun (o5:Out) =>
 some (o5.t 5,o5.H,o5.n+2)
theorem s80 (C:Zp) (L:Zs→Zs) (t:Tm) (H:Hp) (n:Nat):bodyK Try.prog C L Try.f80 t H n=S80 C L t H n:=by kernel_rfl
theorem c80 (args:List Value) (H:Hp) (n:Nat):Call Try.prog 80 args H n=S80 (Call Try.prog) Yf (Yg args) H n:=(Zu Try.func80 args H n).trans (s80 ..)
noncomputable def S81 (C:Zp) (L:Zs→Zs) (t:Tm) (H:Hp) (n:Nat):Option (Value × Hp × Nat) :=
 (C 100 [t 0] H (n+12)).bind fun q1 =>
 let t3:Tm:=put (put (put (put t 2 (.bool false)) 3 (t 0)) 4 q1.1) 5 q1.1
 (gsel q1.1 false
 ((C 108 [t3 0] q1.2.1 (q1.2.2)).bind fun q4 =>
 some (put (put t3 6 (t3 0)) 7 q4.1,q4.2.1,q4.2.2))
 (some (put (put t3 6 (.tuple #[])) 7 (.tuple #[]),q1.2.1,q1.2.2))
 ).bind fun (q2:R3) =>
 (Zw (q2.1 5) (.bool true) (q2.1 7)).bind fun v5 =>
 let t7:Tm:=put (put q2.1 8 v5) 9 v5
 (gsel v5 false
 ((Zr .plain .eql (t7 0) (.int .u8 35)).bind fun v8 =>
 some (put (put t7 10 (t7 0)) 11 v8,q2.2.1,q2.2.2))
 (some (put (put t7 10 (.tuple #[])) 11 (.tuple #[]),q2.2.1,q2.2.2))
 ).bind fun (q6:R3) =>
 (Zw (q6.1 9) (.bool true) (q6.1 11)).bind fun v9 =>
 some (v9,q6.2.1,q6.2.2)
theorem s81 (C:Zp) (L:Zs→Zs) (t:Tm) (H:Hp) (n:Nat):bodyK Try.prog C L Try.f81 t H n=S81 C L t H n:=by kernel_rfl
theorem c81 (args:List Value) (H:Hp) (n:Nat):Call Try.prog 81 args H n=S81 (Call Try.prog) Yf (Yg args) H n:=(Zu Try.func81 args H n).trans (s81 ..)
noncomputable def S82 (C:Zp) (L:Zs→Zs) (t:Tm) (H:Hp) (n:Nat):Option (Value × Hp × Nat) :=
 let H1:=H.set (n) (some (.row [.int .i64 0,.int .i64 0,.string ⟨#[]⟩,.int .i64 0,.int .i64 0] 0 true))
 (Zr .plain .eql (t 0) (.string ⟨#[35,116]⟩)).bind fun v2 =>
 csel v2
 ((bld [.int .i64 0,.int .i64 0,.string ⟨#[]⟩,.int .i64 0,.int .i64 0] [(0,1,.int .i64 2),(1,1,.int .i64 1)]).bind fun v3 =>
 (st true 5 (ptr (n) 0) v3 H1).bind fun H4 =>
 (ld true 5 (ptr (n) 0) H4).bind fun v5 =>
 iteK ([v5,.bool true].all notTup) <|
 some (.tuple ⟨[v5,.bool true]⟩,H4,n+8))
 ((Zr .plain .eql (t 0) (.string ⟨#[35,102]⟩)).bind fun v6 =>
 csel v6
 ((bld [.int .i64 0,.int .i64 0,.string ⟨#[]⟩,.int .i64 0,.int .i64 0] [(0,1,.int .i64 2)]).bind fun v7 =>
 (st true 5 (ptr (n) 0) v7 H1).bind fun H8 =>
 (ld true 5 (ptr (n) 0) H8).bind fun v9 =>
 iteK ([v9,.bool true].all notTup) <|
 some (.tuple ⟨[v9,.bool true]⟩,H8,n+10))
 ((C 109 [t 0] H1 (n+14)).bind fun q10 =>
 (ext 0 q10.1).bind fun v11 =>
 (ext 1 q10.1).bind fun v12 =>
 csel v12
 ((bld [.int .i64 0,.int .i64 0,.string ⟨#[]⟩,.int .i64 0,.int .i64 0] [(0,1,.int .i64 3),(1,1,v11)]).bind fun v13 =>
 (st true 5 (ptr (n) 0) v13 q10.2.1).bind fun H14 =>
 (ld true 5 (ptr (n) 0) H14).bind fun v15 =>
 iteK ([v15,.bool true].all notTup) <|
 some (.tuple ⟨[v15,.bool true]⟩,H14,q10.2.2+5))
 ((bld [.int .i64 0,.int .i64 0,.string ⟨#[]⟩,.int .i64 0,.int .i64 0] [(0,1,.int .i64 4),(2,1,t 0)]).bind fun v16 =>
 (C 60 [t 0] q10.2.1 (q10.2.2+7)).bind fun q17 =>
 (st true 5 (ptr (n) 0) v16 q17.2.1).bind fun H18 =>
 (ld true 5 (ptr (n) 0) H18).bind fun v19 =>
 iteK ([v19,q17.1].all notTup) <|
 some (.tuple ⟨[v19,q17.1]⟩,H18,q17.2.2))))
theorem s82 (C:Zp) (L:Zs→Zs) (t:Tm) (H:Hp) (n:Nat):bodyK Try.prog C L Try.f82 t H n=S82 C L t H n:=by kernel_rfl
theorem c82 (args:List Value) (H:Hp) (n:Nat):Call Try.prog 82 args H n=S82 (Call Try.prog) Yf (Yg args) H n:=(Zu Try.func82 args H n).trans (s82 ..)
noncomputable def S83 (C:Zp) (L:Zs→Zs) (t:Tm) (H:Hp) (n:Nat):Option (Value × Hp × Nat) :=
 (Ye (t 0)).bind fun v1 =>
 (Zo 2 v1).bind fun v2 =>
 (ld false 1 v2 H).bind fun v3 =>
 (Zr .plain .mul v3 (.int .i64 6364136223846793005)).bind fun v4 =>
 (Zr .plain .add v4 (.int .i64 1442695040888963407)).bind fun v5 =>
 (Ye (t 0)).bind fun v6 =>
 (Zo 2 v6).bind fun v7 =>
 (st false 1 v7 v5 H).bind fun H8 =>
 (Ye (t 0)).bind fun v9 =>
 (Zo 2 v9).bind fun v10 =>
 (ld false 1 v10 H8).bind fun v11 =>
 (Zr .plain .shr v11 (.int .u64 33)).bind fun v12 =>
 (Ye (t 0)).bind fun v13 =>
 (Zo 2 v13).bind fun v14 =>
 (ld false 1 v14 H8).bind fun v15 =>
 (Zr .plain .shr v15 (.int .u64 45)).bind fun v16 =>
 (Zr .plain .xor v12 v16).bind fun v17 =>
 (Zr .plain .and v17 (.int .i64 255)).bind fun v18 =>
 (Ye (t 0)).bind fun v19 =>
 (Zo 1 v19).bind fun v20 =>
 (ld false 1 v20 H8).bind fun v21 =>
 (Ye (t 0)).bind fun v22 =>
 (Zo 0 v22).bind fun v23 =>
 (ld false 1 v23 H8).bind fun v24 =>
 (lenV false v24).bind fun v25 =>
 (Zr .plain .lss v21 v25).bind fun v26 =>
 let t28:Tm:=put (put (put (put (put (put (put (put (put (put (put (put (put (put (put (put (put (put (put (put (put (put (put (put (put (put (put (put (put (put (put (put (put t 2 (.int .i64 0)) 4 (t 0)) 5 (t 0)) 6 v1) 7 v2) 8 v3) 9 v4) 10 v5) 11 v6) 12 v7) 13 (t 0)) 14 v9) 15 v10) 16 v11) 17 v12) 18 (t 0)) 19 v13) 20 v14) 21 v15) 22 v16) 23 v17) 24 v18) 3 v18) 25 (t 0)) 26 v19) 27 v20) 28 v21) 29 (t 0)) 30 v22) 31 v23) 32 v24) 33 v25) 34 v26
 (csel v26
 ((Ye (t28 0)).bind fun v29 =>
 (Zo 0 v29).bind fun v30 =>
 (ld false 1 v30 H8).bind fun v31 =>
 (Ye (t28 0)).bind fun v32 =>
 (Zo 1 v32).bind fun v33 =>
 (ld false 1 v33 H8).bind fun v34 =>
 (idxA 1 v31 v34).bind fun v35 =>
 (ld false 1 v35 H8).bind fun v36 =>
 (conv (.toInt .i64) (n+45) v36 H8).bind fun p37 =>
 (Zr .plain .add v18 p37.1).bind fun v38 =>
 (Zr .plain .and v38 (.int .i64 255)).bind fun v39 =>
 (Ye (t28 0)).bind fun v40 =>
 (Zo 1 v40).bind fun v41 =>
 (ld false 1 v41 p37.2).bind fun v42 =>
 (Zr .plain .add v42 (.int .i64 1)).bind fun v43 =>
 (Ye (t28 0)).bind fun v44 =>
 (Zo 1 v44).bind fun v45 =>
 (st false 1 v45 v43 p37.2).bind fun H46 =>
 some ⟨.normal,put (put (put (put (put (put (put (put (put (put (put (put (put (put (put (put (put (put (put (put (put (put (put t28 35 v18) 36 (t28 0)) 37 v29) 38 v30) 39 v31) 40 (t28 0)) 41 v32) 42 v33) 43 v34) 44 v35) 45 v36) 46 p37.1) 47 v38) 48 v39) 3 v39) 49 (t28 0)) 50 (t28 0)) 51 v40) 52 v41) 53 v42) 54 v43) 55 v44) 56 v45,H46,n+58⟩)
 (some ⟨.normal,t28,H8,n+34⟩)
 ).bind fun (o27:Out) =>
 some (o27.t 3,o27.H,o27.n+2)
theorem s83 (C:Zp) (L:Zs→Zs) (t:Tm) (H:Hp) (n:Nat):bodyK Try.prog C L Try.f83 t H n=S83 C L t H n:=by kernel_rfl
theorem c83 (args:List Value) (H:Hp) (n:Nat):Call Try.prog 83 args H n=S83 (Call Try.prog) Yf (Yg args) H n:=(Zu Try.func83 args H n).trans (s83 ..)
noncomputable def S84L0 (C:Zp) (L:Zs→Zs):Zs:=fun t H n =>
 (Zr .plain .lss (t 5) (t 4)).bind fun v7 =>
 csel v7
 ((C 110 [t 0,t 5] H (n+7)).bind fun q8 =>
 (C 41 [t 3,q8.1] q8.2.1 (q8.2.2)).bind fun q9 =>
 (Zr .plain .add (t 5) (.int .i64 1)).bind fun v10 =>
 some ⟨.normal,put (put (put (put (put (put (put (put (put (put t 9 (t 5)) 10 (t 4)) 11 v7) 14 (t 0)) 15 (t 5)) 16 q8.1) 17 q9.1) 12 (t 5)) 13 v10) 5 v10,q9.2.1,q9.2.2+3⟩)
 (some ⟨(.exit 0),put (put (put t 9 (t 5)) 10 (t 4)) 11 v7,H,n+3⟩)
noncomputable def S84 (C:Zp) (L:Zs→Zs) (t:Tm) (H:Hp) (n:Nat):Option (Value × Hp × Nat) :=
 let H1:=H.set (n) (some (.row [nilS] 0 true))
 (bld [nilS] []).bind fun v2 =>
 let H3:=H1.set (n+2) (some (.row [nilS] 0 true))
 (st true 1 (ptr (n+2) 0) v2 H3).bind fun H4 =>
 (C 38 [t 0,.int .i64 16] H4 (n+7)).bind fun q5 =>
 (L (S84L0 C L) (put (put (put (put (put (put (put t 2 (ptr (n) 0)) 6 v2) 3 (ptr (n+2) 0)) 7 (t 0)) 8 q5.1) 4 q5.1) 5 (.int .i64 0)) q5.2.1 (q5.2.2+1)).bind fun (o6:Out) =>
 (ld true 1 (o6.t 3) o6.H).bind fun v11 =>
 (st true 1 (o6.t 2) v11 o6.H).bind fun H12 =>
 (ld true 1 (o6.t 2) H12).bind fun v13 =>
 some (v13,H12,o6.n+2)
theorem s84 (C:Zp) (L:Zs→Zs) (t:Tm) (H:Hp) (n:Nat):bodyK Try.prog C L Try.f84 t H n=S84 C L t H n:=by kernel_rfl
theorem c84 (args:List Value) (H:Hp) (n:Nat):Call Try.prog 84 args H n=S84 (Call Try.prog) Yf (Yg args) H n:=(Zu Try.func84 args H n).trans (s84 ..)
noncomputable def S85 (C:Zp) (L:Zs→Zs) (t:Tm) (H:Hp) (n:Nat):Option (Value × Hp × Nat) :=
 (vcells (t 1)).bind fun c2 =>
 let H1:=H.set (n) (some (.row c2 0 true))
 let H3:=H1.set (n+1) (some (.row [.int .i64 0,.int .i64 0,.string ⟨#[]⟩,.int .i64 0,.int .i64 0] 0 true))
 (C 38 [t 0,.int .i64 8] H3 (n+4)).bind fun q4 =>
 (Zr .plain .eql q4.1 (.int .i64 0)).bind fun v5 =>
 let t7:Tm:=put (put (put (put (put (put t 3 (ptr (n) 0)) 4 (ptr (n+1) 0)) 5 (t 0)) 6 q4.1) 8 v5) 7 v5
 (csel v5
 ((C 38 [t7 0,.int .i64 11] q4.2.1 (q4.2.2+6)).bind fun q8 =>
 (Zo 0 (ptr (n) 0)).bind fun v9 =>
 (st false 1 v9 q8.1 q8.2.1).bind fun H10 =>
 some ⟨.normal,put (put (put t7 9 (t7 0)) 10 q8.1) 11 v9,H10,q8.2.2⟩)
 ((Zr .plain .eql q4.1 (.int .i64 1)).bind fun v11 =>
 let t13:Tm:=put (put t7 13 v11) 12 v11
 (csel v11
 ((C 38 [t13 0,.int .i64 20] q4.2.1 (q4.2.2+9)).bind fun q14 =>
 (Zr .plain .sub q14.1 (.int .i64 1)).bind fun v15 =>
 (Zo 3 (ptr (n) 0)).bind fun v16 =>
 (st false 1 v16 v15 q14.2.1).bind fun H17 =>
 some ⟨.normal,put (put (put (put t13 14 (t13 0)) 15 q14.1) 16 v15) 17 v16,H17,q14.2.2⟩)
 ((Zr .plain .eql q4.1 (.int .i64 2)).bind fun v18 =>
 let t20:Tm:=put (put t13 19 v18) 18 v18
 (csel v18
 ((C 38 [t20 0,.int .i64 20] q4.2.1 (q4.2.2+11)).bind fun q21 =>
 (Zr .plain .sub q21.1 (.int .i64 1)).bind fun v22 =>
 (Zo 4 (ptr (n) 0)).bind fun v23 =>
 (st false 1 v23 v22 q21.2.1).bind fun H24 =>
 some ⟨.normal,put (put (put (put t20 20 (t20 0)) 21 q21.1) 22 v22) 23 v23,H24,q21.2.2⟩)
 ((Zr .plain .eql q4.1 (.int .i64 3)).bind fun v25 =>
 let t27:Tm:=put (put t20 25 v25) 24 v25
 (csel v25
 ((bsl (q4.2.2+9) 1 8 [.int .i64 0] [(0,1,.int .i64 (-1)),(1,1,.int .i64 2),(2,1,.int .i64 99),(3,1,.int .i64 100),(4,1,.int .i64 1000000000),(5,1,.int .i64 1000000001),(6,1,.int .i64 (-1000000000)),(7,1,.int .i64 (-1000000001))] q4.2.1).bind fun p28 =>
 (C 62 [t27 0,p28.1] p28.2 (q4.2.2+13)).bind fun q29 =>
 (Zo 1 (ptr (n) 0)).bind fun v30 =>
 (st false 1 v30 q29.1 q29.2.1).bind fun H31 =>
 some ⟨.normal,put (put (put (put t27 26 (t27 0)) 27 p28.1) 28 q29.1) 29 v30,H31,q29.2.2⟩)
 ((Zr .plain .eql q4.1 (.int .i64 4)).bind fun v32 =>
 let t34:Tm:=put (put t27 31 v32) 30 v32
 (csel v32
 ((bsl (q4.2.2+11) 1 6 [.string ⟨#[]⟩] [(0,1,.string ⟨#[]⟩),(1,1,.string ⟨#[97]⟩),(2,1,.string ⟨#[65,98]⟩),(3,1,.string ⟨#[97,98,99,100,101,102,103,104,105,106,107,108]⟩),(4,1,.string ⟨#[97,98,99,100,101,102,103,104,105,106,107,108,109]⟩),(5,1,.string ⟨#[97,49]⟩)] q4.2.1).bind fun p35 =>
 (C 58 [t34 0,p35.1] p35.2 (q4.2.2+15)).bind fun q36 =>
 (Zo 2 (ptr (n) 0)).bind fun v37 =>
 (st false 1 v37 q36.1 q36.2.1).bind fun H38 =>
 some ⟨.normal,put (put (put (put t34 32 (t34 0)) 33 p35.1) 34 q36.1) 35 v37,H38,q36.2.2⟩)
 (some ⟨.normal,t34,q4.2.1,q4.2.2+10⟩)
 ).bind fun (o33:Out) =>
 some ⟨.normal,o33.t,o33.H,o33.n⟩)
 ).bind fun (o26:Out) =>
 some ⟨.normal,o26.t,o26.H,o26.n⟩)
 ).bind fun (o19:Out) =>
 some ⟨.normal,o19.t,o19.H,o19.n⟩)
 ).bind fun (o12:Out) =>
 some ⟨.normal,o12.t,o12.H,o12.n⟩)
 ).bind fun (o6:Out) =>
 (ld true 5 (o6.t 3) o6.H).bind fun v39 =>
 (st true 5 (o6.t 4) v39 o6.H).bind fun H40 =>
 (ld true 5 (o6.t 4) H40).bind fun v41 =>
 some (v41,H40,o6.n+2)
theorem s85 (C:Zp) (L:Zs→Zs) (t:Tm) (H:Hp) (n:Nat):bodyK Try.prog C L Try.f85 t H n=S85 C L t H n:=by kernel_rfl
theorem c85 (args:List Value) (H:Hp) (n:Nat):Call Try.prog 85 args H n=S85 (Call Try.prog) Yf (Yg args) H n:=(Zu Try.func85 args H n).trans (s85 ..)
noncomputable def S86 (C:Zp) (L:Zs→Zs) (t:Tm) (H:Hp) (n:Nat):Option (Value × Hp × Nat) :=
 (vcells (t 0)).bind fun c2 =>
 let H1:=H.set (n) (some (.row c2 0 true))
 (Zo 2 (ptr (n) 0)).bind fun v3 =>
 (ld false 1 v3 H1).bind fun v4 =>
 (Zr .plain .eql v4 (.string ⟨#[]⟩)).bind fun v5 =>
 (Zo 3 (ptr (n) 0)).bind fun v6 =>
 (ld false 1 v6 H1).bind fun v7 =>
 (Zr .plain .eql v7 (.int .i64 0)).bind fun v8 =>
 (Zo 4 (ptr (n) 0)).bind fun v9 =>
 (ld false 1 v9 H1).bind fun v10 =>
 (Zr .plain .eql v10 (.int .i64 0)).bind fun v11 =>
 (Zo 0 (ptr (n) 0)).bind fun v12 =>
 (ld false 1 v12 H1).bind fun v13 =>
 (Zr .plain .eql v13 (.int .i64 1)).bind fun v14 =>
 let t16:Tm:=put (put (put (put (put (put (put (put (put (put (put (put (put (put (put (put (put (put (put (put t 2 (ptr (n) 0)) 4 (.bool false)) 10 v3) 11 v4) 12 v5) 5 (.int .i64 0)) 6 (.int .i64 0)) 7 v5) 13 v6) 14 v7) 15 v8) 16 v9) 17 v10) 18 v11) 8 v8) 9 v11) 19 v12) 20 v13) 22 v14) 21 v14
 (csel v14
 (some ⟨.normal,t16,H1,n+20⟩)
 ((Zr .plain .eql v13 (.int .i64 2)).bind fun v17 =>
 let t19:Tm:=put (put t16 24 v17) 23 v17
 (csel v17
 (some ⟨.normal,put t19 6 (.int .i64 1),H1,n+23⟩)
 ((Zr .plain .eql v13 (.int .i64 3)).bind fun v20 =>
 let t22:Tm:=put (put t19 26 v20) 25 v20
 (csel v20
 (some ⟨.normal,put (put t22 5 (.int .i64 (-1000000000))) 6 (.int .i64 1000000000),H1,n+26⟩)
 ((Zr .plain .eql v13 (.int .i64 4)).bind fun v23 =>
 let t25:Tm:=put (put t22 28 v23) 27 v23
 (csel v23
 ((Zo 2 (ptr (n) 0)).bind fun v26 =>
 (ld false 1 v26 H1).bind fun v27 =>
 (C 55 [v27] H1 (n+30)).bind fun q28 =>
 some ⟨.normal,put (put (put (put t25 29 v26) 30 v27) 31 q28.1) 7 q28.1,q28.2.1,q28.2.2⟩)
 ((Zr .plain .eql v13 (.int .i64 5)).bind fun v29 =>
 let t31:Tm:=put (put t25 33 v29) 32 v29
 (csel v29
 ((Zo 3 (ptr (n) 0)).bind fun v32 =>
 (ld false 1 v32 H1).bind fun v33 =>
 (Zr .plain .sub (t31 1) (.int .i64 1)).bind fun v34 =>
 (C 56 [v33,.int .i64 0,v34] H1 (n+40)).bind fun q35 =>
 (Zo 4 (ptr (n) 0)).bind fun v36 =>
 (ld false 1 v36 q35.2.1).bind fun v37 =>
 ask (ld false 1 v36 H1=some v37) <|
 (Zr .plain .sub (t31 1) (.int .i64 1)).bind fun v38 =>
 (C 56 [v37,.int .i64 0,v38] q35.2.1 (q35.2.2)).bind fun q39 =>
 some ⟨.normal,put (put (put (put (put (put (put (put (put (put (put (put t31 34 v32) 35 v33) 36 (t31 1)) 37 v34) 38 q35.1) 39 v36) 40 v37) 41 (t31 1)) 42 v38) 43 q39.1) 8 q35.1) 9 q39.1,q39.2.1,q39.2.2⟩)
 ((Zr .plain .eql v13 (.int .i64 6)).bind fun v40 =>
 let t42:Tm:=put (put t31 45 v40) 44 v40
 (csel v40
 ((Zo 3 (ptr (n) 0)).bind fun v43 =>
 (ld false 1 v43 H1).bind fun v44 =>
 (Zr .plain .sub (t42 1) (.int .i64 1)).bind fun v45 =>
 (C 56 [v44,.int .i64 0,v45] H1 (n+37)).bind fun q46 =>
 some ⟨.normal,put (put (put (put (put (put (put t42 46 v43) 47 v44) 48 (t42 1)) 49 v45) 50 q46.1) 6 (.int .i64 1000000000)) 8 q46.1,q46.2.1,q46.2.2⟩)
 ((Zr .plain .eql v13 (.int .i64 7)).bind fun v47 =>
 let t49:Tm:=put (put t42 52 v47) 51 v47
 (csel v47
 ((Zo 3 (ptr (n) 0)).bind fun v50 =>
 (ld false 1 v50 H1).bind fun v51 =>
 (Zr .plain .sub (t49 1) (.int .i64 1)).bind fun v52 =>
 (C 56 [v51,.int .i64 0,v52] H1 (n+38)).bind fun q53 =>
 some ⟨.normal,put (put (put (put (put (put t49 53 v50) 54 v51) 55 (t49 1)) 56 v52) 57 q53.1) 8 q53.1,q53.2.1,q53.2.2⟩)
 ((Zr .plain .eql v13 (.int .i64 8)).bind fun v54 =>
 let t56:Tm:=put (put t49 59 v54) 58 v54
 (csel v54
 (some ⟨.normal,put t56 6 (.int .i64 99),H1,n+35⟩)
 ((Zr .plain .eql v13 (.int .i64 9)).bind fun v57 =>
 csel v57
 (some ⟨.normal,put (put (put t56 61 v57) 60 v57) 6 (.int .i64 1000000000),H1,n+37⟩)
 (some ⟨.ret,put (put (put t56 61 v57) 60 v57) 4 (.bool false),H1,n+37⟩))
 ).bind fun (o55:Out) =>
 some o55)
 ).bind fun (o48:Out) =>
 some o48)
 ).bind fun (o41:Out) =>
 some o41)
 ).bind fun (o30:Out) =>
 some o30)
 ).bind fun (o24:Out) =>
 some o24)
 ).bind fun (o21:Out) =>
 some o21)
 ).bind fun (o18:Out) =>
 some o18)
 ).bind fun (o15:Out) =>
 let o58:=outOf 0 o15
 thenK o58
 ((Zo 1 (o58.t 2)).bind fun v59 =>
 (ld false 1 v59 o58.H).bind fun v60 =>
 (C 56 [v60,o58.t 5,o58.t 6] o58.H (o58.n+15)).bind fun q61 =>
 (Zw q61.1 (gsel q61.1 true (o58.t 7) (.tuple #[])) (.bool false)).bind fun v62 =>
 (Zw v62 (gsel v62 true (o58.t 8) (.tuple #[])) (.bool false)).bind fun v63 =>
 (Zw v63 (gsel v63 true (o58.t 9) (.tuple #[])) (.bool false)).bind fun v64 =>
 some (v64,q61.2.1,q61.2.2))
 (finE o58.e
 (some (o58.t 4,o58.H,o58.n)))
theorem s86 (C:Zp) (L:Zs→Zs) (t:Tm) (H:Hp) (n:Nat):bodyK Try.prog C L Try.f86 t H n=S86 C L t H n:=by kernel_rfl
theorem c86 (args:List Value) (H:Hp) (n:Nat):Call Try.prog 86 args H n=S86 (Call Try.prog) Yf (Yg args) H n:=(Zu Try.func86 args H n).trans (s86 ..)
noncomputable def S88 (C:Zp) (L:Zs→Zs) (t:Tm) (H:Hp) (n:Nat):Option (Value × Hp × Nat) :=
 (Zr .slice .eql (t 0) nilS).bind fun v1 =>
 csel v1
 (some (nilS,H,n+4))
 ((bsl (n+3) 5 0 [.int .i64 0,.int .i64 0,.string ⟨#[]⟩,.int .i64 0,.int .i64 0] [] H).bind fun p2 =>
 (app (n+5) 5 48 p2.1 (t 0) p2.2).bind fun p3 =>
 some (p3.1,p3.2,n+7))
theorem s88 (C:Zp) (L:Zs→Zs) (t:Tm) (H:Hp) (n:Nat):bodyK Try.prog C L Try.f88 t H n=S88 C L t H n:=by kernel_rfl
theorem c88 (args:List Value) (H:Hp) (n:Nat):Call Try.prog 88 args H n=S88 (Call Try.prog) Yf (Yg args) H n:=(Zu Try.func88 args H n).trans (s88 ..)
noncomputable def S93 (C:Zp) (L:Zs→Zs) (t:Tm) (H:Hp) (n:Nat):Option (Value × Hp × Nat) :=
 (vcells (t 0)).bind fun c2 =>
 let H1:=H.set (n) (some (.row c2 0 true))
 (Zo 3 (ptr (n) 0)).bind fun v3 =>
 (ld false 1 v3 H1).bind fun v4 =>
 (Zr .plain .sub (t 1) (.int .i64 1)).bind fun v5 =>
 (C 61 [v4,.int .i64 0,v5] H1 (n+8)).bind fun q6 =>
 (Zo 4 (ptr (n) 0)).bind fun v7 =>
 (ld false 1 v7 q6.2.1).bind fun v8 =>
 (Zr .plain .sub (t 1) (.int .i64 1)).bind fun v9 =>
 (C 61 [v8,.int .i64 0,v9] q6.2.1 (q6.2.2+6)).bind fun q10 =>
 (Zo 0 (ptr (n) 0)).bind fun v11 =>
 (ld false 1 v11 q10.2.1).bind fun v12 =>
 (Zr .plain .eql v12 (.int .i64 1)).bind fun v13 =>
 csel v13
 ((ld true 5 (ptr (n) 0) q10.2.1).bind fun v14 =>
 (bld [.int .i64 0,.int .i64 0,.string ⟨#[]⟩,.int .i64 0,.int .i64 0] [(0,1,.int .i64 1)]).bind fun v15 =>
 (Zr (.agg [(0,(.int .i64)),(1,(.int .i64)),(2,.string),(3,(.int .i64)),(4,(.int .i64))]) .eql v14 v15).bind fun v16 =>
 some (v16,q10.2.1,q10.2.2+8))
 ((Zr .plain .eql v12 (.int .i64 2)).bind fun v17 =>
 csel v17
 ((Zo 1 (ptr (n) 0)).bind fun v18 =>
 (ld false 1 v18 q10.2.1).bind fun v19 =>
 (C 61 [v19,.int .i64 0,.int .i64 1] q10.2.1 (q10.2.2+17)).bind fun q20 =>
 let t22:Tm:=put (put (put (put (put (put (put (put (put (put (put (put (put (put (put (put (put (put (put (put (put (put (put (put t 2 (ptr (n) 0)) 4 (.bool false)) 7 v3) 8 v4) 9 (t 1)) 10 v5) 11 q6.1) 5 q6.1) 12 v7) 13 v8) 14 (t 1)) 15 v9) 16 q10.1) 6 q10.1) 17 v11) 18 v12) 20 v13) 19 v13) 25 v17) 24 v17) 26 v18) 27 v19) 28 q20.1) 29 q20.1
 (gsel q20.1 true
 ((ld true 5 (ptr (n) 0) q20.2.1).bind fun v23 =>
 (Zo 1 (ptr (n) 0)).bind fun v24 =>
 (ld false 1 v24 q20.2.1).bind fun v25 =>
 (bld [.int .i64 0,.int .i64 0,.string ⟨#[]⟩,.int .i64 0,.int .i64 0] [(0,1,.int .i64 2),(1,1,v25)]).bind fun v26 =>
 (Zr (.agg [(0,(.int .i64)),(1,(.int .i64)),(2,.string),(3,(.int .i64)),(4,(.int .i64))]) .eql v23 v26).bind fun v27 =>
 some (put (put (put (put (put t22 30 v23) 31 v24) 32 v25) 33 v26) 34 v27,q20.2.1,q20.2.2))
 (some (put (put (put (put (put t22 30 (.tuple #[])) 31 (.tuple #[])) 32 (.tuple #[])) 33 (.tuple #[])) 34 (.tuple #[]),q20.2.1,q20.2.2))
 ).bind fun (q21:R3) =>
 (Zw (q21.1 29) (q21.1 34) (.bool false)).bind fun v28 =>
 some (v28,q21.2.1,q21.2.2))
 ((Zr .plain .eql v12 (.int .i64 3)).bind fun v29 =>
 csel v29
 ((Zo 1 (ptr (n) 0)).bind fun v30 =>
 (ld false 1 v30 q10.2.1).bind fun v31 =>
 (C 61 [v31,.int .i64 (-1000000000),.int .i64 1000000000] q10.2.1 (q10.2.2+19)).bind fun q32 =>
 let t34:Tm:=put (put (put (put (put (put (put (put (put (put (put (put (put (put (put (put (put (put (put (put (put (put (put (put (put (put t 2 (ptr (n) 0)) 4 (.bool false)) 7 v3) 8 v4) 9 (t 1)) 10 v5) 11 q6.1) 5 q6.1) 12 v7) 13 v8) 14 (t 1)) 15 v9) 16 q10.1) 6 q10.1) 17 v11) 18 v12) 20 v13) 19 v13) 25 v17) 24 v17) 37 v29) 36 v29) 38 v30) 39 v31) 40 q32.1) 41 q32.1
 (gsel q32.1 true
 ((ld true 5 (ptr (n) 0) q32.2.1).bind fun v35 =>
 (Zo 1 (ptr (n) 0)).bind fun v36 =>
 (ld false 1 v36 q32.2.1).bind fun v37 =>
 (bld [.int .i64 0,.int .i64 0,.string ⟨#[]⟩,.int .i64 0,.int .i64 0] [(0,1,.int .i64 3),(1,1,v37)]).bind fun v38 =>
 (Zr (.agg [(0,(.int .i64)),(1,(.int .i64)),(2,.string),(3,(.int .i64)),(4,(.int .i64))]) .eql v35 v38).bind fun v39 =>
 some (put (put (put (put (put t34 42 v35) 43 v36) 44 v37) 45 v38) 46 v39,q32.2.1,q32.2.2))
 (some (put (put (put (put (put t34 42 (.tuple #[])) 43 (.tuple #[])) 44 (.tuple #[])) 45 (.tuple #[])) 46 (.tuple #[]),q32.2.1,q32.2.2))
 ).bind fun (q33:R3) =>
 (Zw (q33.1 41) (q33.1 46) (.bool false)).bind fun v40 =>
 some (v40,q33.2.1,q33.2.2))
 ((Zr .plain .eql v12 (.int .i64 4)).bind fun v41 =>
 csel v41
 ((Zo 2 (ptr (n) 0)).bind fun v42 =>
 (ld false 1 v42 q10.2.1).bind fun v43 =>
 (C 60 [v43] q10.2.1 (q10.2.2+21)).bind fun q44 =>
 let t46:Tm:=put (put (put (put (put (put (put (put (put (put (put (put (put (put (put (put (put (put (put (put (put (put (put (put (put (put (put (put t 2 (ptr (n) 0)) 4 (.bool false)) 7 v3) 8 v4) 9 (t 1)) 10 v5) 11 q6.1) 5 q6.1) 12 v7) 13 v8) 14 (t 1)) 15 v9) 16 q10.1) 6 q10.1) 17 v11) 18 v12) 20 v13) 19 v13) 25 v17) 24 v17) 37 v29) 36 v29) 49 v41) 48 v41) 50 v42) 51 v43) 52 q44.1) 53 q44.1
 (gsel q44.1 true
 ((ld true 5 (ptr (n) 0) q44.2.1).bind fun v47 =>
 (Zo 2 (ptr (n) 0)).bind fun v48 =>
 (ld false 1 v48 q44.2.1).bind fun v49 =>
 (bld [.int .i64 0,.int .i64 0,.string ⟨#[]⟩,.int .i64 0,.int .i64 0] [(0,1,.int .i64 4),(2,1,v49)]).bind fun v50 =>
 (Zr (.agg [(0,(.int .i64)),(1,(.int .i64)),(2,.string),(3,(.int .i64)),(4,(.int .i64))]) .eql v47 v50).bind fun v51 =>
 some (put (put (put (put (put t46 54 v47) 55 v48) 56 v49) 57 v50) 58 v51,q44.2.1,q44.2.2))
 (some (put (put (put (put (put t46 54 (.tuple #[])) 55 (.tuple #[])) 56 (.tuple #[])) 57 (.tuple #[])) 58 (.tuple #[]),q44.2.1,q44.2.2))
 ).bind fun (q45:R3) =>
 (Zw (q45.1 53) (q45.1 58) (.bool false)).bind fun v52 =>
 some (v52,q45.2.1,q45.2.2))
 ((Zr .plain .eql v12 (.int .i64 5)).bind fun v53 =>
 csel v53
 ((Zw q6.1 (gsel q6.1 true q10.1 (.tuple #[])) (.bool false)).bind fun v54 =>
 let t56:Tm:=put (put (put (put (put (put (put (put (put (put (put (put (put (put (put (put (put (put (put (put (put (put (put (put (put (put (put (put (put (put (put t 2 (ptr (n) 0)) 4 (.bool false)) 7 v3) 8 v4) 9 (t 1)) 10 v5) 11 q6.1) 5 q6.1) 12 v7) 13 v8) 14 (t 1)) 15 v9) 16 q10.1) 6 q10.1) 17 v11) 18 v12) 20 v13) 19 v13) 25 v17) 24 v17) 37 v29) 36 v29) 49 v41) 48 v41) 61 v53) 60 v53) 62 q6.1) 63 q6.1) 64 (gsel q6.1 true q10.1 (.tuple #[]))) 65 v54) 66 v54
 (gsel v54 true
 ((Zo 1 (ptr (n) 0)).bind fun v57 =>
 (ld false 1 v57 q10.2.1).bind fun v58 =>
 (Zr .plain .eql v58 (.int .i64 0)).bind fun v59 =>
 some (put (put (put t56 67 v57) 68 v58) 69 v59,q10.2.1,q10.2.2+27))
 (some (put (put (put t56 67 (.tuple #[])) 68 (.tuple #[])) 69 (.tuple #[]),q10.2.1,q10.2.2+27))
 ).bind fun (q55:R3) =>
 (Zw (q55.1 66) (q55.1 69) (.bool false)).bind fun v60 =>
 let t62:Tm:=put (put q55.1 70 v60) 71 v60
 (gsel v60 true
 ((Zo 2 (t62 2)).bind fun v63 =>
 (ld false 1 v63 q55.2.1).bind fun v64 =>
 (Zr .plain .eql v64 (.string ⟨#[]⟩)).bind fun v65 =>
 some (put (put (put t62 72 v63) 73 v64) 74 v65,q55.2.1,q55.2.2))
 (some (put (put (put t62 72 (.tuple #[])) 73 (.tuple #[])) 74 (.tuple #[]),q55.2.1,q55.2.2))
 ).bind fun (q61:R3) =>
 (Zw (q61.1 71) (q61.1 74) (.bool false)).bind fun v66 =>
 some (v66,q61.2.1,q61.2.2))
 ((Zr .plain .eql v12 (.int .i64 6)).bind fun v67 =>
 csel v67
 (let t69:Tm:=put (put (put (put (put (put (put (put (put (put (put (put (put (put (put (put (put (put (put (put (put (put (put (put (put (put (put (put (put (put t 2 (ptr (n) 0)) 4 (.bool false)) 7 v3) 8 v4) 9 (t 1)) 10 v5) 11 q6.1) 5 q6.1) 12 v7) 13 v8) 14 (t 1)) 15 v9) 16 q10.1) 6 q10.1) 17 v11) 18 v12) 20 v13) 19 v13) 25 v17) 24 v17) 37 v29) 36 v29) 49 v41) 48 v41) 61 v53) 60 v53) 77 v67) 76 v67) 78 q6.1) 79 q6.1
 (gsel q6.1 true
 ((Zo 1 (ptr (n) 0)).bind fun v70 =>
 (ld false 1 v70 q10.2.1).bind fun v71 =>
 (C 61 [v71,.int .i64 0,.int .i64 1000000000] q10.2.1 (q10.2.2+31)).bind fun q72 =>
 some (put (put (put t69 80 v70) 81 v71) 82 q72.1,q72.2.1,q72.2.2))
 (some (put (put (put t69 80 (.tuple #[])) 81 (.tuple #[])) 82 (.tuple #[]),q10.2.1,q10.2.2+31))
 ).bind fun (q68:R3) =>
 (Zw (q68.1 79) (q68.1 82) (.bool false)).bind fun v73 =>
 let t75:Tm:=put (put q68.1 83 v73) 84 v73
 (gsel v73 true
 ((Zo 4 (t75 2)).bind fun v76 =>
 (ld false 1 v76 q68.2.1).bind fun v77 =>
 (Zr .plain .eql v77 (.int .i64 0)).bind fun v78 =>
 some (put (put (put t75 85 v76) 86 v77) 87 v78,q68.2.1,q68.2.2))
 (some (put (put (put t75 85 (.tuple #[])) 86 (.tuple #[])) 87 (.tuple #[]),q68.2.1,q68.2.2))
 ).bind fun (q74:R3) =>
 (Zw (q74.1 84) (q74.1 87) (.bool false)).bind fun v79 =>
 let t81:Tm:=put (put q74.1 88 v79) 89 v79
 (gsel v79 true
 ((Zo 2 (t81 2)).bind fun v82 =>
 (ld false 1 v82 q74.2.1).bind fun v83 =>
 (Zr .plain .eql v83 (.string ⟨#[]⟩)).bind fun v84 =>
 some (put (put (put t81 90 v82) 91 v83) 92 v84,q74.2.1,q74.2.2))
 (some (put (put (put t81 90 (.tuple #[])) 91 (.tuple #[])) 92 (.tuple #[]),q74.2.1,q74.2.2))
 ).bind fun (q80:R3) =>
 (Zw (q80.1 89) (q80.1 92) (.bool false)).bind fun v85 =>
 some (v85,q80.2.1,q80.2.2))
 ((Zr .plain .eql v12 (.int .i64 7)).bind fun v86 =>
 csel v86
 (let t88:Tm:=put (put (put (put (put (put (put (put (put (put (put (put (put (put (put (put (put (put (put (put (put (put (put (put (put (put (put (put (put (put (put (put t 2 (ptr (n) 0)) 4 (.bool false)) 7 v3) 8 v4) 9 (t 1)) 10 v5) 11 q6.1) 5 q6.1) 12 v7) 13 v8) 14 (t 1)) 15 v9) 16 q10.1) 6 q10.1) 17 v11) 18 v12) 20 v13) 19 v13) 25 v17) 24 v17) 37 v29) 36 v29) 49 v41) 48 v41) 61 v53) 60 v53) 77 v67) 76 v67) 95 v86) 94 v86) 96 q6.1) 97 q6.1
 (gsel q6.1 true
 ((Zo 1 (ptr (n) 0)).bind fun v89 =>
 (ld false 1 v89 q10.2.1).bind fun v90 =>
 (Zr .plain .eql v90 (.int .i64 0)).bind fun v91 =>
 some (put (put (put t88 98 v89) 99 v90) 100 v91,q10.2.1,q10.2.2+33))
 (some (put (put (put t88 98 (.tuple #[])) 99 (.tuple #[])) 100 (.tuple #[]),q10.2.1,q10.2.2+33))
 ).bind fun (q87:R3) =>
 (Zw (q87.1 97) (q87.1 100) (.bool false)).bind fun v92 =>
 let t94:Tm:=put (put q87.1 101 v92) 102 v92
 (gsel v92 true
 ((Zo 4 (t94 2)).bind fun v95 =>
 (ld false 1 v95 q87.2.1).bind fun v96 =>
 (Zr .plain .eql v96 (.int .i64 0)).bind fun v97 =>
 some (put (put (put t94 103 v95) 104 v96) 105 v97,q87.2.1,q87.2.2))
 (some (put (put (put t94 103 (.tuple #[])) 104 (.tuple #[])) 105 (.tuple #[]),q87.2.1,q87.2.2))
 ).bind fun (q93:R3) =>
 (Zw (q93.1 102) (q93.1 105) (.bool false)).bind fun v98 =>
 let t100:Tm:=put (put q93.1 106 v98) 107 v98
 (gsel v98 true
 ((Zo 2 (t100 2)).bind fun v101 =>
 (ld false 1 v101 q93.2.1).bind fun v102 =>
 (Zr .plain .eql v102 (.string ⟨#[]⟩)).bind fun v103 =>
 some (put (put (put t100 108 v101) 109 v102) 110 v103,q93.2.1,q93.2.2))
 (some (put (put (put t100 108 (.tuple #[])) 109 (.tuple #[])) 110 (.tuple #[]),q93.2.1,q93.2.2))
 ).bind fun (q99:R3) =>
 (Zw (q99.1 107) (q99.1 110) (.bool false)).bind fun v104 =>
 some (v104,q99.2.1,q99.2.2))
 ((Zr .plain .eql v12 (.int .i64 8)).bind fun v105 =>
 csel v105
 ((Zo 1 (ptr (n) 0)).bind fun v106 =>
 (ld false 1 v106 q10.2.1).bind fun v107 =>
 (C 61 [v107,.int .i64 0,.int .i64 99] q10.2.1 (q10.2.2+29)).bind fun q108 =>
 let t110:Tm:=put (put (put (put (put (put (put (put (put (put (put (put (put (put (put (put (put (put (put (put (put (put (put (put (put (put (put (put (put (put (put (put (put (put (put (put t 2 (ptr (n) 0)) 4 (.bool false)) 7 v3) 8 v4) 9 (t 1)) 10 v5) 11 q6.1) 5 q6.1) 12 v7) 13 v8) 14 (t 1)) 15 v9) 16 q10.1) 6 q10.1) 17 v11) 18 v12) 20 v13) 19 v13) 25 v17) 24 v17) 37 v29) 36 v29) 49 v41) 48 v41) 61 v53) 60 v53) 77 v67) 76 v67) 95 v86) 94 v86) 113 v105) 112 v105) 114 v106) 115 v107) 116 q108.1) 117 q108.1
 (gsel q108.1 true
 ((ld true 5 (ptr (n) 0) q108.2.1).bind fun v111 =>
 (Zo 1 (ptr (n) 0)).bind fun v112 =>
 (ld false 1 v112 q108.2.1).bind fun v113 =>
 (bld [.int .i64 0,.int .i64 0,.string ⟨#[]⟩,.int .i64 0,.int .i64 0] [(0,1,.int .i64 8),(1,1,v113)]).bind fun v114 =>
 (Zr (.agg [(0,(.int .i64)),(1,(.int .i64)),(2,.string),(3,(.int .i64)),(4,(.int .i64))]) .eql v111 v114).bind fun v115 =>
 some (put (put (put (put (put t110 118 v111) 119 v112) 120 v113) 121 v114) 122 v115,q108.2.1,q108.2.2))
 (some (put (put (put (put (put t110 118 (.tuple #[])) 119 (.tuple #[])) 120 (.tuple #[])) 121 (.tuple #[])) 122 (.tuple #[]),q108.2.1,q108.2.2))
 ).bind fun (q109:R3) =>
 (Zw (q109.1 117) (q109.1 122) (.bool false)).bind fun v116 =>
 some (v116,q109.2.1,q109.2.2))
 ((Zr .plain .eql v12 (.int .i64 9)).bind fun v117 =>
 csel v117
 ((Zo 1 (ptr (n) 0)).bind fun v118 =>
 (ld false 1 v118 q10.2.1).bind fun v119 =>
 (C 61 [v119,.int .i64 0,.int .i64 1000000000] q10.2.1 (q10.2.2+31)).bind fun q120 =>
 let t122:Tm:=put (put (put (put (put (put (put (put (put (put (put (put (put (put (put (put (put (put (put (put (put (put (put (put (put (put (put (put (put (put (put (put (put (put (put (put (put (put t 2 (ptr (n) 0)) 4 (.bool false)) 7 v3) 8 v4) 9 (t 1)) 10 v5) 11 q6.1) 5 q6.1) 12 v7) 13 v8) 14 (t 1)) 15 v9) 16 q10.1) 6 q10.1) 17 v11) 18 v12) 20 v13) 19 v13) 25 v17) 24 v17) 37 v29) 36 v29) 49 v41) 48 v41) 61 v53) 60 v53) 77 v67) 76 v67) 95 v86) 94 v86) 113 v105) 112 v105) 125 v117) 124 v117) 126 v118) 127 v119) 128 q120.1) 129 q120.1
 (gsel q120.1 true
 ((ld true 5 (ptr (n) 0) q120.2.1).bind fun v123 =>
 (Zo 1 (ptr (n) 0)).bind fun v124 =>
 (ld false 1 v124 q120.2.1).bind fun v125 =>
 (bld [.int .i64 0,.int .i64 0,.string ⟨#[]⟩,.int .i64 0,.int .i64 0] [(0,1,.int .i64 9),(1,1,v125)]).bind fun v126 =>
 (Zr (.agg [(0,(.int .i64)),(1,(.int .i64)),(2,.string),(3,(.int .i64)),(4,(.int .i64))]) .eql v123 v126).bind fun v127 =>
 some (put (put (put (put (put t122 130 v123) 131 v124) 132 v125) 133 v126) 134 v127,q120.2.1,q120.2.2))
 (some (put (put (put (put (put t122 130 (.tuple #[])) 131 (.tuple #[])) 132 (.tuple #[])) 133 (.tuple #[])) 134 (.tuple #[]),q120.2.1,q120.2.2))
 ).bind fun (q121:R3) =>
 (Zw (q121.1 129) (q121.1 134) (.bool false)).bind fun v128 =>
 some (v128,q121.2.1,q121.2.2))
 (some (.bool false,q10.2.1,q10.2.2+21))))))))))
theorem s93 (C:Zp) (L:Zs→Zs) (t:Tm) (H:Hp) (n:Nat):bodyK Try.prog C L Try.f93 t H n=S93 C L t H n:=by kernel_rfl
theorem c93 (args:List Value) (H:Hp) (n:Nat):Call Try.prog 93 args H n=S93 (Call Try.prog) Yf (Yg args) H n:=(Zu Try.func93 args H n).trans (s93 ..)
noncomputable def S94L0 (C:Zp) (L:Zs→Zs):Zs:=fun t H n =>
 (Zo 0 (t 2)).bind fun v5 =>
 (ld false 1 v5 H).bind fun v6 =>
 (idxA 5 v6 (t 1)).bind fun v7 =>
 (Zo 0 v7).bind fun v8 =>
 (ld false 1 v8 H).bind fun v9 =>
 (Zr .plain .eql v9 (.int .i64 5)).bind fun v10 =>
 csel v10
 ((Zo 0 (t 2)).bind fun v11 =>
 (ld false 1 v11 H).bind fun v12 =>
 (idxA 5 v12 (t 1)).bind fun v13 =>
 (Zo 3 v13).bind fun v14 =>
 (ld false 1 v14 H).bind fun v15 =>
 (bsl (n+14) 1 1 [.int .i64 0] [(0,1,v15)] H).bind fun p16 =>
 (app (n+15) 1 8 (t 6) p16.1 p16.2).bind fun p17 =>
 (Zo 0 (t 2)).bind fun v18 =>
 (ld false 1 v18 p17.2).bind fun v19 =>
 (idxA 5 v19 (t 1)).bind fun v20 =>
 (Zo 4 v20).bind fun v21 =>
 (ld false 1 v21 p17.2).bind fun v22 =>
 some ⟨.normal,put (put (put (put (put (put (put (put (put (put (put (put (put (put (put (put (put (put (put (put (put (put (put (put t 8 v5) 9 v6) 10 (t 1)) 11 v7) 12 v8) 13 v9) 14 v10) 15 (t 6)) 16 v11) 17 v12) 18 (t 1)) 19 v13) 20 v14) 21 v15) 22 p16.1) 23 p17.1) 6 p17.1) 24 v18) 25 v19) 26 (t 1)) 27 v20) 28 v21) 29 v22) 1 v22,p17.2,n+24⟩)
 (some ⟨(.exit 0),put (put (put (put (put (put (put t 8 v5) 9 v6) 10 (t 1)) 11 v7) 12 v8) 13 v9) 14 v10,H,n+7⟩)
noncomputable def S94 (C:Zp) (L:Zs→Zs) (t:Tm) (H:Hp) (n:Nat):Option (Value × Hp × Nat) :=
 (vcells (t 0)).bind fun c2 =>
 let H1:=H.set (n) (some (.row c2 0 true))
 (bsl (n+3) 1 0 [.int .i64 0] [] H1).bind fun p3 =>
 (L (S94L0 C L) (put (put (put (put (put t 2 (ptr (n) 0)) 4 nilS) 5 (.bool false)) 7 p3.1) 6 p3.1) p3.2 (n+5)).bind fun (o4:Out) =>
 (Zo 0 (o4.t 2)).bind fun v23 =>
 (ld false 1 v23 o4.H).bind fun v24 =>
 (idxA 5 v24 (o4.t 1)).bind fun v25 =>
 (Zo 0 v25).bind fun v26 =>
 (ld false 1 v26 o4.H).bind fun v27 =>
 (Zr .plain .neq v27 (.int .i64 1)).bind fun v28 =>
 csel v28
 ((bsl (o4.n+7) 1 0 [.int .i64 0] [] o4.H).bind fun p29 =>
 iteK ([p29.1,.bool false].all notTup) <|
 some (.tuple ⟨[p29.1,.bool false]⟩,p29.2,o4.n+10))
 (iteK ([o4.t 6,.bool true].all notTup) <|
 some (.tuple ⟨[o4.t 6,.bool true]⟩,o4.H,o4.n+10))
theorem s94 (C:Zp) (L:Zs→Zs) (t:Tm) (H:Hp) (n:Nat):bodyK Try.prog C L Try.f94 t H n=S94 C L t H n:=by kernel_rfl
theorem c94 (args:List Value) (H:Hp) (n:Nat):Call Try.prog 94 args H n=S94 (Call Try.prog) Yf (Yg args) H n:=(Zu Try.func94 args H n).trans (s94 ..)
noncomputable def S95L0 (C:Zp) (L:Zs→Zs):Zs:=fun t H n =>
 (Ye (t 0)).bind fun v2 =>
 (Zo 2 v2).bind fun v3 =>
 (ld false 1 v3 H).bind fun v4 =>
 (lenV false v4).bind fun v5 =>
 (Zr .plain .lss (t 8) v5).bind fun v6 =>
 let t8:Tm:=put (put (put (put (put (put (put (put t 9 (t 8)) 10 (t 0)) 11 v2) 12 v3) 13 v4) 14 v5) 15 v6) 16 v6
 (gsel v6 true
 ((Ye (t8 0)).bind fun v9 =>
 (Zo 3 v9).bind fun v10 =>
 (ld false 1 v10 H).bind fun v11 =>
 (Zr .plain .eql v11 (.int .i64 0)).bind fun v12 =>
 some (put (put (put (put (put t8 17 (t8 0)) 18 v9) 19 v10) 20 v11) 21 v12,H,n+14))
 (some (put (put (put (put (put t8 17 (.tuple #[])) 18 (.tuple #[])) 19 (.tuple #[])) 20 (.tuple #[])) 21 (.tuple #[]),H,n+14))
 ).bind fun (q7:R3) =>
 (Zw (q7.1 16) (q7.1 21) (.bool false)).bind fun v13 =>
 csel v13
 ((Ye (q7.1 0)).bind fun v14 =>
 (Zo 2 v14).bind fun v15 =>
 (ld false 1 v15 q7.2.1).bind fun v16 =>
 (idxA 3 v16 (q7.1 8)).bind fun v17 =>
 (Zo 0 v17).bind fun v18 =>
 (ld false 1 v18 q7.2.1).bind fun v19 =>
 (Zr .plain .eql v19 (q7.1 1)).bind fun v20 =>
 let t22:Tm:=put (put (put (put (put (put (put (put (put (put (put q7.1 22 v13) 25 (q7.1 0)) 26 v14) 27 v15) 28 v16) 29 (q7.1 8)) 30 v17) 31 v18) 32 v19) 33 (q7.1 1)) 34 v20
 (csel v20
 ((Ye (t22 0)).bind fun v23 =>
 (Zo 3 v23).bind fun v24 =>
 (st false 1 v24 (.int .i64 2) q7.2.1).bind fun H25 =>
 some ⟨.normal,put (put (put t22 35 (t22 0)) 36 v23) 37 v24,H25,q7.2.2+14⟩)
 (some ⟨.normal,t22,q7.2.1,q7.2.2+10⟩)
 ).bind fun (o21:Out) =>
 (Zr .plain .add (o21.t 8) (.int .i64 1)).bind fun v26 =>
 some ⟨.normal,put (put (put o21.t 23 (o21.t 8)) 24 v26) 8 v26,o21.H,o21.n+3⟩)
 (some ⟨(.exit 0),put q7.1 22 v13,q7.2.1,q7.2.2⟩)
noncomputable def S95 (C:Zp) (L:Zs→Zs) (t:Tm) (H:Hp) (n:Nat):Option (Value × Hp × Nat) :=
 (L (S95L0 C L) (put t 8 (.int .i64 0)) H (n+1)).bind fun (o1:Out) =>
 (Ye (o1.t 0)).bind fun v27 =>
 (Zo 2 v27).bind fun v28 =>
 (ld false 1 v28 o1.H).bind fun v29 =>
 (Ye (o1.t 0)).bind fun v30 =>
 (Zo 1 v30).bind fun v31 =>
 (ld false 1 v31 o1.H).bind fun v32 =>
 (lenV false v32).bind fun v33 =>
 (lenV false (o1.t 2)).bind fun v34 =>
 (bld [.string ⟨#[]⟩,.int .i64 0,.int .i64 0] [(0,1,o1.t 1),(1,1,v33),(2,1,v34)]).bind fun v35 =>
 (bsl (o1.n+14) 3 1 [.string ⟨#[]⟩,.int .i64 0,.int .i64 0] [(0,3,v35)] o1.H).bind fun p36 =>
 (app (o1.n+15) 3 32 v29 p36.1 p36.2).bind fun p37 =>
 (Ye (o1.t 0)).bind fun v38 =>
 (Zo 2 v38).bind fun v39 =>
 (st false 1 v39 p37.1 p37.2).bind fun H40 =>
 (bsl (o1.n+22) 1 1 [nilS] [(0,1,o1.t 2)] H40).bind fun p41 =>
 (C 116 [o1.t 0,o1.t 3,p41.1] p41.2 (o1.n+24)).bind fun q42 =>
 (bld [.int .i64 0,.int .i64 0,.int .i64 0,.string ⟨#[]⟩] [(0,1,.int .i64 8)]).bind fun v43 =>
 (C 117 [o1.t 0,v43] q42.2.1 (q42.2.2+3)).bind fun q44 =>
 some (.tuple ⟨[]⟩,q44.2.1,q44.2.2)
theorem s95 (C:Zp) (L:Zs→Zs) (t:Tm) (H:Hp) (n:Nat):bodyK Try.prog C L Try.f95 t H n=S95 C L t H n:=by kernel_rfl
theorem c95 (args:List Value) (H:Hp) (n:Nat):Call Try.prog 95 args H n=S95 (Call Try.prog) Yf (Yg args) H n:=(Zu Try.func95 args H n).trans (s95 ..)
noncomputable def S96 (C:Zp) (L:Zs→Zs) (t:Tm) (H:Hp) (n:Nat):Option (Value × Hp × Nat) :=
 (Ye (t 0)).bind fun v1 =>
 (Zo 0 v1).bind fun v2 =>
 (Zo 0 v2).bind fun v3 =>
 (ld false 1 v3 H).bind fun v4 =>
 (idxA 5 v4 (t 1)).bind fun v5 =>
 (ld true 5 v5 H).bind fun v6 =>
 let H7:=H.set (n+10) (some (.row [.int .i64 0,.int .i64 0,.string ⟨#[]⟩,.int .i64 0,.int .i64 0] 0 true))
 (st true 5 (ptr (n+10) 0) v6 H7).bind fun H8 =>
 (Zo 2 (ptr (n+10) 0)).bind fun v9 =>
 (ld false 1 v9 H8).bind fun v10 =>
 (Zo 0 (ptr (n+10) 0)).bind fun v11 =>
 (ld false 1 v11 H8).bind fun v12 =>
 (Zr .plain .eql v12 (.int .i64 4)).bind fun v13 =>
 let t15:Tm:=put (put (put (put (put (put (put (put (put (put (put (put (put (put (put (put (put t 4 (.string ⟨#[]⟩)) 5 (.bool false)) 7 (t 0)) 8 v1) 9 v2) 10 v3) 11 v4) 12 (t 1)) 13 v5) 14 v6) 6 (ptr (n+10) 0)) 15 v9) 16 v10) 17 v11) 18 v12) 19 v13) 20 v13
 (gsel v13 true
 ((Zo 2 (ptr (n+10) 0)).bind fun v16 =>
 (ld false 1 v16 H8).bind fun v17 =>
 (C 118 [v17] H8 (n+25)).bind fun q18 =>
 ask (ld false 1 v9 q18.2.1=some v10) <|
 (un .not q18.1).bind fun v19 =>
 some ⟨put (put (put (put t15 21 v16) 22 v17) 23 q18.1) 24 v19,q18.2.1,q18.2.2,[⟨7,false,1,v16,v17⟩,⟨3,false,1,v11,v12⟩,⟨1,false,1,v9,v10⟩],[(8,H8)]⟩)
 (some ⟨put (put (put (put t15 21 (.tuple #[])) 22 (.tuple #[])) 23 (.tuple #[])) 24 (.tuple #[]),H8,n+25,[⟨3,false,1,v11,v12⟩,⟨1,false,1,v9,v10⟩],[]⟩)
 ).bind fun (q14:R5) =>
 (Zw (q14.t 20) (q14.t 24) (.bool false)).bind fun v20 =>
 iteK ([q14.t 16,v20].all notTup) <|
 some (.tuple ⟨[q14.t 16,v20]⟩,q14.H,q14.n)
theorem s96 (C:Zp) (L:Zs→Zs) (t:Tm) (H:Hp) (n:Nat):bodyK Try.prog C L Try.f96 t H n=S96 C L t H n:=by kernel_rfl
theorem c96 (args:List Value) (H:Hp) (n:Nat):Call Try.prog 96 args H n=S96 (Call Try.prog) Yf (Yg args) H n:=(Zu Try.func96 args H n).trans (s96 ..)
noncomputable def S97L2 (C:Zp) (L:Zs→Zs):Zs:=fun t H n =>
 (Zr .plain .lss (t 10) (t 9)).bind fun v44 =>
 csel v44
 ((idxA 1 (t 5) (t 10)).bind fun v45 =>
 (ld false 1 v45 H).bind fun v46 =>
 (idxA 1 (t 5) (t 9)).bind fun v47 =>
 (ld false 1 v47 H).bind fun v48 =>
 (Zr .plain .eql v46 v48).bind fun v49 =>
 let t51:Tm:=put (put (put (put (put (put (put (put (put (put (put (put t 62 (t 10)) 63 (t 9)) 64 v44) 67 (t 5)) 68 (t 10)) 69 v45) 70 v46) 71 (t 5)) 72 (t 9)) 73 v47) 74 v48) 75 v49
 (csel v49
 ((Ye (t51 0)).bind fun v52 =>
 (Zo 3 v52).bind fun v53 =>
 (st false 1 v53 (.int .i64 2) H).bind fun H54 =>
 some ⟨.normal,put (put (put t51 76 (t51 0)) 77 v52) 78 v53,H54,n+16⟩)
 (some ⟨.normal,t51,H,n+12⟩)
 ).bind fun (o50:Out) =>
 (Zr .plain .add (o50.t 10) (.int .i64 1)).bind fun v55 =>
 some ⟨.normal,put (put (put o50.t 65 (o50.t 10)) 66 v55) 10 v55,o50.H,o50.n+3⟩)
 (some ⟨(.exit 4),put (put (put t 62 (t 10)) 63 (t 9)) 64 v44,H,n+3⟩)
noncomputable def S97L1 (C:Zp) (L:Zs→Zs):Zs:=fun t H n =>
 (lenV false (t 5)).bind fun v34 =>
 (Zr .plain .lss (t 9) v34).bind fun v35 =>
 let t37:Tm:=put (put (put (put (put t 49 (t 9)) 50 (t 5)) 51 v34) 52 v35) 53 v35
 (gsel v35 true
 ((Ye (t37 0)).bind fun v38 =>
 (Zo 3 v38).bind fun v39 =>
 (ld false 1 v39 H).bind fun v40 =>
 (Zr .plain .eql v40 (.int .i64 0)).bind fun v41 =>
 some (put (put (put (put (put t37 54 (t37 0)) 55 v38) 56 v39) 57 v40) 58 v41,H,n+11))
 (some (put (put (put (put (put t37 54 (.tuple #[])) 55 (.tuple #[])) 56 (.tuple #[])) 57 (.tuple #[])) 58 (.tuple #[]),H,n+11))
 ).bind fun (q36:R3) =>
 (Zw (q36.1 53) (q36.1 58) (.bool false)).bind fun v42 =>
 csel v42
 ((L (S97L2 C L) (put (put q36.1 59 v42) 10 (.int .i64 0)) q36.2.1 (q36.2.2+1)).bind fun (o43:Out) =>
 (Zr .plain .add (o43.t 9) (.int .i64 1)).bind fun v56 =>
 some ⟨.normal,put (put (put o43.t 60 (o43.t 9)) 61 v56) 9 v56,o43.H,o43.n+3⟩)
 (some ⟨(.exit 2),put q36.1 59 v42,q36.2.1,q36.2.2⟩)
noncomputable def S97L0 (C:Zp) (L:Zs→Zs):Zs:=fun t H n =>
 (lenV false (t 1)).bind fun v10 =>
 (Zr .plain .lss (t 6) v10).bind fun v11 =>
 let t13:Tm:=put (put (put (put (put t 18 (t 6)) 19 (t 1)) 20 v10) 21 v11) 22 v11
 (gsel v11 true
 ((Ye (t13 0)).bind fun v14 =>
 (Zo 3 v14).bind fun v15 =>
 (ld false 1 v15 H).bind fun v16 =>
 (Zr .plain .eql v16 (.int .i64 0)).bind fun v17 =>
 some (put (put (put (put (put t13 23 (t13 0)) 24 v14) 25 v15) 26 v16) 27 v17,H,n+11))
 (some (put (put (put (put (put t13 23 (.tuple #[])) 24 (.tuple #[])) 25 (.tuple #[])) 26 (.tuple #[])) 27 (.tuple #[]),H,n+11))
 ).bind fun (q12:R3) =>
 (Zw (q12.1 22) (q12.1 27) (.bool false)).bind fun v18 =>
 csel v18
 ((idxA 1 (q12.1 1) (q12.1 6)).bind fun v19 =>
 (ld false 1 v19 q12.2.1).bind fun v20 =>
 (C 96 [q12.1 0,v20] q12.2.1 (q12.2.2+11)).bind fun q21 =>
 (ext 0 q21.1).bind fun v22 =>
 (ext 1 q21.1).bind fun v23 =>
 (un .not v23).bind fun v24 =>
 let t26:Tm:=put (put (put (put (put (put (put (put (put (put (put (put (put (put q12.1 28 v18) 32 (q12.1 0)) 33 (q12.1 1)) 34 (q12.1 6)) 35 v19) 36 v20) 37 q21.1) 31 q21.1) 38 v22) 39 v23) 7 v22) 8 v23) 40 v23) 41 v24
 (csel v24
 ((Ye (t26 0)).bind fun v27 =>
 (Zo 3 v27).bind fun v28 =>
 (st false 1 v28 (.int .i64 1) q21.2.1).bind fun H29 =>
 some ⟨.normal,put (put (put t26 42 (t26 0)) 43 v27) 44 v28,H29,q21.2.2+6⟩)
 (some ⟨.normal,t26,q21.2.1,q21.2.2+2⟩)
 ).bind fun (o25:Out) =>
 (bsl (o25.n+2) 1 1 [.string ⟨#[]⟩] [(0,1,o25.t 7)] o25.H).bind fun p30 =>
 (app (o25.n+3) 1 16 (o25.t 5) p30.1 p30.2).bind fun p31 =>
 (Zr .plain .add (o25.t 6) (.int .i64 1)).bind fun v32 =>
 some ⟨.normal,put (put (put (put (put (put (put (put o25.t 45 (o25.t 5)) 46 (o25.t 7)) 47 p30.1) 48 p31.1) 5 p31.1) 29 (o25.t 6)) 30 v32) 6 v32,p31.2,o25.n+8⟩)
 (some ⟨(.exit 0),put q12.1 28 v18,q12.2.1,q12.2.2⟩)
noncomputable def S97 (C:Zp) (L:Zs→Zs) (t:Tm) (H:Hp) (n:Nat):Option (Value × Hp × Nat) :=
 (bsl (n+1) 1 0 [.string ⟨#[]⟩] [] H).bind fun p1 =>
 (lenV false (t 1)).bind fun v2 =>
 (Zr .plain .gtr v2 (.int .i64 4)).bind fun v3 =>
 let t5:Tm:=put (put (put (put (put (put t 4 nilS) 11 p1.1) 5 p1.1) 12 (t 1)) 13 v2) 14 v3
 (csel v3
 ((Ye (t5 0)).bind fun v6 =>
 (Zo 3 v6).bind fun v7 =>
 (st false 1 v7 (.int .i64 1) p1.2).bind fun H8 =>
 some ⟨.normal,put (put (put t5 15 (t5 0)) 16 v6) 17 v7,H8,n+10⟩)
 (some ⟨.normal,t5,p1.2,n+6⟩)
 ).bind fun (o4:Out) =>
 (L (S97L0 C L) (put o4.t 6 (.int .i64 0)) o4.H (o4.n+1)).bind fun (o9:Out) =>
 (L (S97L1 C L) (put o9.t 9 (.int .i64 0)) o9.H (o9.n+1)).bind fun (o33:Out) =>
 some (o33.t 5,o33.H,o33.n+2)
theorem s97 (C:Zp) (L:Zs→Zs) (t:Tm) (H:Hp) (n:Nat):bodyK Try.prog C L Try.f97 t H n=S97 C L t H n:=by kernel_rfl
theorem c97 (args:List Value) (H:Hp) (n:Nat):Call Try.prog 97 args H n=S97 (Call Try.prog) Yf (Yg args) H n:=(Zu Try.func97 args H n).trans (s97 ..)
noncomputable def S98 (C:Zp) (L:Zs→Zs) (t:Tm) (H:Hp) (n:Nat):Option (Value × Hp × Nat) :=
 (Zr .plain .geq (t 0) (.int .u8 97)).bind fun v1 =>
 let t3:Tm:=put (put (put (put t 2 (.bool false)) 3 (t 0)) 4 v1) 5 v1
 (gsel v1 true
 ((Zr .plain .leq (t3 0) (.int .u8 122)).bind fun v4 =>
 some (put (put t3 6 (t3 0)) 7 v4,H,n+14))
 (some (put (put t3 6 (.tuple #[])) 7 (.tuple #[]),H,n+14))
 ).bind fun (q2:R3) =>
 (Zw (q2.1 5) (q2.1 7) (.bool false)).bind fun v5 =>
 let t7:Tm:=put (put q2.1 8 v5) 9 v5
 (gsel v5 false
 ((bsl (n+8) 1 8 [.int .u8 0] [(0,1,.int .u8 43),(1,1,.int .u8 45),(2,1,.int .u8 42),(3,1,.int .u8 60),(4,1,.int .u8 61),(5,1,.int .u8 63),(6,1,.int .u8 33),(7,1,.int .u8 47)] q2.2.1).bind fun p8 =>
 (conv .mark (n+9) p8.1 p8.2).bind fun p9 =>
 (C 119 [p9.1,t7 0] p9.2 (q2.2.2)).bind fun q10 =>
 some (put (put (put (put t7 10 p8.1) 11 p9.1) 12 (t7 0)) 13 q10.1,q10.2.1,q10.2.2))
 (some (put (put (put (put t7 10 (.tuple #[])) 11 (.tuple #[])) 12 (.tuple #[])) 13 (.tuple #[]),q2.2.1,q2.2.2))
 ).bind fun (q6:R3) =>
 (Zw (q6.1 9) (.bool true) (q6.1 13)).bind fun v11 =>
 some (v11,q6.2.1,q6.2.2)
theorem s98 (C:Zp) (L:Zs→Zs) (t:Tm) (H:Hp) (n:Nat):bodyK Try.prog C L Try.f98 t H n=S98 C L t H n:=by kernel_rfl
theorem c98 (args:List Value) (H:Hp) (n:Nat):Call Try.prog 98 args H n=S98 (Call Try.prog) Yf (Yg args) H n:=(Zu Try.func98 args H n).trans (s98 ..)
noncomputable def S99L0 (C:Zp) (L:Zs→Zs):Zs:=fun t H n =>
 (Zr .plain .lss (t 3) (.int .i64 4)).bind fun v3 =>
 csel v3
 ((bld [nilS] []).bind fun v4 =>
 (C 34 [t 0] H (n+16)).bind fun q5 =>
 (C 37 [v4,q5.1] q5.2.1 (q5.2.2)).bind fun q6 =>
 (ext 0 q6.1).bind fun v7 =>
 (ext 1 q6.1).bind fun v8 =>
 (ext 2 q6.1).bind fun v9 =>
 (ext 3 q6.1).bind fun v10 =>
 let H11:=q6.2.1.set (n+11) (some (.row [nilS] 0 true))
 (st true 1 (ptr (n+11) 0) v7 H11).bind fun H12 =>
 (ld true 1 (ptr (n+11) 0) H12).bind fun v13 =>
 (C 10 [v13,v8] H12 (q6.2.2+11)).bind fun q14 =>
 (ext 0 q14.1).bind fun v15 =>
 (ext 1 q14.1).bind fun v16 =>
 (ext 2 q14.1).bind fun v17 =>
 let H18:=q14.2.1.set (q6.2.2+7) (some (.row [nilS,nilS,nilS] 0 true))
 (st true 3 (ptr (q6.2.2+7) 0) v15 H18).bind fun H19 =>
 (Zr .plain .eql v9 (.int .i64 0)).bind fun v20 =>
 let t22:Tm:=put (put (put (put (put (put (put (put (put (put (put (put (put (put (put (put (put (put (put (put (put (put (put (put (put (put (put (put t 18 (t 3)) 19 v3) 23 v4) 24 (t 0)) 25 q5.1) 26 q6.1) 22 q6.1) 27 v7) 28 v8) 29 v9) 30 v10) 4 (ptr (n+11) 0)) 5 v8) 6 v9) 7 v10) 32 v13) 33 v8) 34 q14.1) 31 q14.1) 35 v15) 36 v16) 37 v17) 8 (ptr (q6.2.2+7) 0)) 9 v16) 10 v17) 38 v9) 39 v20) 40 v20
 (gsel v20 true
 ((Zr .plain .eql v16 (.int .i64 0)).bind fun v23 =>
 some (put (put t22 41 v16) 42 v23,H19,q14.2.2+6))
 (some (put (put t22 41 (.tuple #[])) 42 (.tuple #[]),H19,q14.2.2+6))
 ).bind fun (q21:R3) =>
 (Zw (q21.1 40) (q21.1 42) (.bool false)).bind fun v24 =>
 csel v24
 ((ld true 3 (q21.1 8) q21.2.1).bind fun v25 =>
 (st true 3 (q21.1 2) v25 q21.2.1).bind fun H26 =>
 some ⟨.ret,put (put q21.1 43 v24) 44 v25,H26,q21.2.2+2⟩)
 ((Zr .plain .add (q21.1 3) (.int .i64 1)).bind fun v27 =>
 some ⟨.normal,put (put (put (put q21.1 43 v24) 20 (q21.1 3)) 21 v27) 3 v27,q21.2.1,q21.2.2+3⟩))
 (some ⟨(.exit 0),put (put t 18 (t 3)) 19 v3,H,n+2⟩)
noncomputable def S99 (C:Zp) (L:Zs→Zs) (t:Tm) (H:Hp) (n:Nat):Option (Value × Hp × Nat) :=
 let H1:=H.set (n) (some (.row [nilS,nilS,nilS] 0 true))
 (L (S99L0 C L) (put (put t 2 (ptr (n) 0)) 3 (.int .i64 0)) H1 (n+2)).bind fun (o2:Out) =>
 let o28:=outOf 0 o2
 thenK o28
 ((bld [nilS] []).bind fun v29 =>
 (C 37 [v29,.string ⟨#[40,112,114,105,110,116,32,49,41]⟩] o28.H (o28.n+12)).bind fun q30 =>
 (ext 0 q30.1).bind fun v31 =>
 (ext 1 q30.1).bind fun v32 =>
 (ext 2 q30.1).bind fun v33 =>
 (ext 3 q30.1).bind fun v34 =>
 let H35:=q30.2.1.set (o28.n+7) (some (.row [nilS] 0 true))
 (st true 1 (ptr (o28.n+7) 0) v31 H35).bind fun H36 =>
 (ld true 1 (ptr (o28.n+7) 0) H36).bind fun v37 =>
 (C 10 [v37,v32] H36 (q30.2.2+11)).bind fun q38 =>
 (ext 0 q38.1).bind fun v39 =>
 (ext 1 q38.1).bind fun v40 =>
 (ext 2 q38.1).bind fun v41 =>
 let H42:=q38.2.1.set (q30.2.2+7) (some (.row [nilS,nilS,nilS] 0 true))
 (st true 3 (ptr (q30.2.2+7) 0) v39 H42).bind fun H43 =>
 (ld true 3 (ptr (q30.2.2+7) 0) H43).bind fun v44 =>
 (st true 3 (o28.t 2) v44 H43).bind fun H45 =>
 (ld true 3 (o28.t 2) H45).bind fun v46 =>
 some (v46,H45,q38.2.2+2))
 (finE o28.e
 ((ld true 3 (o28.t 2) o28.H).bind fun v47 =>
 some (v47,o28.H,o28.n)))
theorem s99 (C:Zp) (L:Zs→Zs) (t:Tm) (H:Hp) (n:Nat):bodyK Try.prog C L Try.f99 t H n=S99 C L t H n:=by kernel_rfl
theorem c99 (args:List Value) (H:Hp) (n:Nat):Call Try.prog 99 args H n=S99 (Call Try.prog) Yf (Yg args) H n:=(Zu Try.func99 args H n).trans (s99 ..)
noncomputable def S100 (C:Zp) (L:Zs→Zs) (t:Tm) (H:Hp) (n:Nat):Option (Value × Hp × Nat) :=
 (Zr .plain .geq (t 0) (.int .u8 97)).bind fun v1 =>
 let t3:Tm:=put (put (put (put t 2 (.bool false)) 3 (t 0)) 4 v1) 5 v1
 (gsel v1 true
 ((Zr .plain .leq (t3 0) (.int .u8 122)).bind fun v4 =>
 some (put (put t3 6 (t3 0)) 7 v4,H,n+40))
 (some (put (put t3 6 (.tuple #[])) 7 (.tuple #[]),H,n+40))
 ).bind fun (q2:R3) =>
 (Zw (q2.1 5) (q2.1 7) (.bool false)).bind fun v5 =>
 let t7:Tm:=put (put q2.1 8 v5) 9 v5
 (gsel v5 false
 ((Zr .plain .eql (t7 0) (.int .u8 43)).bind fun v8 =>
 some (put (put t7 10 (t7 0)) 11 v8,q2.2.1,q2.2.2))
 (some (put (put t7 10 (.tuple #[])) 11 (.tuple #[]),q2.2.1,q2.2.2))
 ).bind fun (q6:R3) =>
 (Zw (q6.1 9) (.bool true) (q6.1 11)).bind fun v9 =>
 let t11:Tm:=put (put q6.1 12 v9) 13 v9
 (gsel v9 false
 ((Zr .plain .eql (t11 0) (.int .u8 45)).bind fun v12 =>
 some (put (put t11 14 (t11 0)) 15 v12,q6.2.1,q6.2.2))
 (some (put (put t11 14 (.tuple #[])) 15 (.tuple #[]),q6.2.1,q6.2.2))
 ).bind fun (q10:R3) =>
 (Zw (q10.1 13) (.bool true) (q10.1 15)).bind fun v13 =>
 let t15:Tm:=put (put q10.1 16 v13) 17 v13
 (gsel v13 false
 ((Zr .plain .eql (t15 0) (.int .u8 42)).bind fun v16 =>
 some (put (put t15 18 (t15 0)) 19 v16,q10.2.1,q10.2.2))
 (some (put (put t15 18 (.tuple #[])) 19 (.tuple #[]),q10.2.1,q10.2.2))
 ).bind fun (q14:R3) =>
 (Zw (q14.1 17) (.bool true) (q14.1 19)).bind fun v17 =>
 let t19:Tm:=put (put q14.1 20 v17) 21 v17
 (gsel v17 false
 ((Zr .plain .eql (t19 0) (.int .u8 60)).bind fun v20 =>
 some (put (put t19 22 (t19 0)) 23 v20,q14.2.1,q14.2.2))
 (some (put (put t19 22 (.tuple #[])) 23 (.tuple #[]),q14.2.1,q14.2.2))
 ).bind fun (q18:R3) =>
 (Zw (q18.1 21) (.bool true) (q18.1 23)).bind fun v21 =>
 let t23:Tm:=put (put q18.1 24 v21) 25 v21
 (gsel v21 false
 ((Zr .plain .eql (t23 0) (.int .u8 61)).bind fun v24 =>
 some (put (put t23 26 (t23 0)) 27 v24,q18.2.1,q18.2.2))
 (some (put (put t23 26 (.tuple #[])) 27 (.tuple #[]),q18.2.1,q18.2.2))
 ).bind fun (q22:R3) =>
 (Zw (q22.1 25) (.bool true) (q22.1 27)).bind fun v25 =>
 let t27:Tm:=put (put q22.1 28 v25) 29 v25
 (gsel v25 false
 ((Zr .plain .eql (t27 0) (.int .u8 63)).bind fun v28 =>
 some (put (put t27 30 (t27 0)) 31 v28,q22.2.1,q22.2.2))
 (some (put (put t27 30 (.tuple #[])) 31 (.tuple #[]),q22.2.1,q22.2.2))
 ).bind fun (q26:R3) =>
 (Zw (q26.1 29) (.bool true) (q26.1 31)).bind fun v29 =>
 let t31:Tm:=put (put q26.1 32 v29) 33 v29
 (gsel v29 false
 ((Zr .plain .eql (t31 0) (.int .u8 33)).bind fun v32 =>
 some (put (put t31 34 (t31 0)) 35 v32,q26.2.1,q26.2.2))
 (some (put (put t31 34 (.tuple #[])) 35 (.tuple #[]),q26.2.1,q26.2.2))
 ).bind fun (q30:R3) =>
 (Zw (q30.1 33) (.bool true) (q30.1 35)).bind fun v33 =>
 let t35:Tm:=put (put q30.1 36 v33) 37 v33
 (gsel v33 false
 ((Zr .plain .eql (t35 0) (.int .u8 47)).bind fun v36 =>
 some (put (put t35 38 (t35 0)) 39 v36,q30.2.1,q30.2.2))
 (some (put (put t35 38 (.tuple #[])) 39 (.tuple #[]),q30.2.1,q30.2.2))
 ).bind fun (q34:R3) =>
 (Zw (q34.1 37) (.bool true) (q34.1 39)).bind fun v37 =>
 some (v37,q34.2.1,q34.2.2)
theorem s100 (C:Zp) (L:Zs→Zs) (t:Tm) (H:Hp) (n:Nat):bodyK Try.prog C L Try.f100 t H n=S100 C L t H n:=by kernel_rfl
theorem c100 (args:List Value) (H:Hp) (n:Nat):Call Try.prog 100 args H n=S100 (Call Try.prog) Yf (Yg args) H n:=(Zu Try.func100 args H n).trans (s100 ..)
noncomputable def S108 (C:Zp) (L:Zs→Zs) (t:Tm) (H:Hp) (n:Nat):Option (Value × Hp × Nat) :=
 (Zr .plain .geq (t 0) (.int .u8 48)).bind fun v1 =>
 let t3:Tm:=put (put (put (put t 2 (.bool false)) 3 (t 0)) 4 v1) 5 v1
 (gsel v1 true
 ((Zr .plain .leq (t3 0) (.int .u8 57)).bind fun v4 =>
 some (put (put t3 6 (t3 0)) 7 v4,H,n+8))
 (some (put (put t3 6 (.tuple #[])) 7 (.tuple #[]),H,n+8))
 ).bind fun (q2:R3) =>
 (Zw (q2.1 5) (q2.1 7) (.bool false)).bind fun v5 =>
 some (v5,q2.2.1,q2.2.2)
theorem s108 (C:Zp) (L:Zs→Zs) (t:Tm) (H:Hp) (n:Nat):bodyK Try.prog C L Try.f108 t H n=S108 C L t H n:=by kernel_rfl
theorem c108 (args:List Value) (H:Hp) (n:Nat):Call Try.prog 108 args H n=S108 (Call Try.prog) Yf (Yg args) H n:=(Zu Try.func108 args H n).trans (s108 ..)
noncomputable def S109L0 (C:Zp) (L:Zs→Zs):Zs:=fun t H n =>
 (lenV true (t 4)).bind fun v19 =>
 (Zr .plain .lss (t 6) v19).bind fun v20 =>
 csel v20
 ((idxS (t 4) (t 6)).bind fun v21 =>
 (C 108 [v21] H (n+9)).bind fun q22 =>
 (un .not q22.1).bind fun v23 =>
 csel v23
 (some ⟨.ret,put (put (put (put (put (put (put (put (put (put (put t 26 (t 6)) 27 (t 4)) 28 v19) 29 v20) 32 (t 4)) 33 (t 6)) 34 v21) 35 q22.1) 36 v23) 2 (.int .i64 0)) 3 (.bool false),q22.2.1,q22.2.2+2⟩)
 ((Zr .plain .mul (.int .i64 10) (t 5)).bind fun v24 =>
 (idxS (t 4) (t 6)).bind fun v25 =>
 (conv (.toInt .i64) (q22.2.2+5) v25 q22.2.1).bind fun p26 =>
 (Zr .plain .add v24 p26.1).bind fun v27 =>
 (Zr .plain .sub v27 (.int .i64 48)).bind fun v28 =>
 (Zr .plain .add (t 6) (.int .i64 1)).bind fun v29 =>
 some ⟨.normal,put (put (put (put (put (put (put (put (put (put (put (put (put (put (put (put (put (put (put (put (put t 26 (t 6)) 27 (t 4)) 28 v19) 29 v20) 32 (t 4)) 33 (t 6)) 34 v21) 35 q22.1) 36 v23) 37 (t 5)) 38 v24) 39 (t 4)) 40 (t 6)) 41 v25) 42 p26.1) 43 v27) 44 v28) 5 v28) 30 (t 6)) 31 v29) 6 v29,p26.2,q22.2.2+12⟩))
 (some ⟨(.exit 0),put (put (put (put t 26 (t 6)) 27 (t 4)) 28 v19) 29 v20,H,n+4⟩)
noncomputable def S109 (C:Zp) (L:Zs→Zs) (t:Tm) (H:Hp) (n:Nat):Option (Value × Hp × Nat) :=
 (lenV true (t 0)).bind fun v1 =>
 (Zr .plain .gtr v1 (.int .i64 1)).bind fun v2 =>
 let t4:Tm:=put (put (put (put (put (put (put (put t 2 (.int .i64 0)) 3 (.bool false)) 7 (t 0)) 4 (t 0)) 8 (t 0)) 9 v1) 10 v2) 11 v2
 (gsel v2 true
 ((idxS (t4 0) (.int .i64 0)).bind fun v5 =>
 (Zr .plain .eql v5 (.int .u8 45)).bind fun v6 =>
 some (put (put (put t4 12 (t4 0)) 13 v5) 14 v6,H,n+12))
 (some (put (put (put t4 12 (.tuple #[])) 13 (.tuple #[])) 14 (.tuple #[]),H,n+12))
 ).bind fun (q3:R3) =>
 (Zw (q3.1 11) (q3.1 14) (.bool false)).bind fun v7 =>
 let t9:Tm:=put q3.1 15 v7
 (csel v7
 ((sliceV 0 (t9 0) (some (.int .i64 1)) none).bind fun v10 =>
 some ⟨.normal,put (put (put t9 16 (t9 0)) 17 v10) 4 v10,q3.2.1,q3.2.2+3⟩)
 (some ⟨.normal,t9,q3.2.1,q3.2.2⟩)
 ).bind fun (o8:Out) =>
 (lenV true (o8.t 4)).bind fun v11 =>
 (Zr .plain .gtr v11 (.int .i64 10)).bind fun v12 =>
 let t14:Tm:=put (put (put (put o8.t 18 (o8.t 4)) 19 v11) 20 v12) 21 v12
 (gsel v12 false
 ((lenV true (t14 4)).bind fun v15 =>
 (Zr .plain .eql v15 (.int .i64 0)).bind fun v16 =>
 some (put (put (put t14 22 (t14 4)) 23 v15) 24 v16,o8.H,o8.n+8))
 (some (put (put (put t14 22 (.tuple #[])) 23 (.tuple #[])) 24 (.tuple #[]),o8.H,o8.n+8))
 ).bind fun (q13:R3) =>
 (Zw (q13.1 21) (.bool true) (q13.1 24)).bind fun v17 =>
 csel v17
 (iteK ([.int .i64 0,.bool false].all notTup) <|
 some (.tuple ⟨[.int .i64 0,.bool false]⟩,q13.2.1,q13.2.2+2))
 ((L (S109L0 C L) (put (put (put q13.1 25 v17) 5 (.int .i64 0)) 6 (.int .i64 0)) q13.2.1 (q13.2.2+2)).bind fun (o18:Out) =>
 let o30:=outOf 0 o18
 thenK o30
 ((lenV true (o30.t 4)).bind fun v31 =>
 (lenV true (o30.t 0)).bind fun v32 =>
 (Zr .plain .neq v31 v32).bind fun v33 =>
 let t35:Tm:=put (put (put (put (put o30.t 45 (o30.t 4)) 46 v31) 47 (o30.t 0)) 48 v32) 49 v33
 (csel v33
 ((Zr .plain .sub (.int .i64 0) (t35 5)).bind fun v36 =>
 some ⟨.normal,put (put (put t35 50 (t35 5)) 51 v36) 5 v36,o30.H,o30.n+8⟩)
 (some ⟨.normal,t35,o30.H,o30.n+5⟩)
 ).bind fun (o34:Out) =>
 (C 120 [o34.t 5] o34.H (o34.n+11)).bind fun q37 =>
 (Zr .plain .eql q37.1 (o34.t 0)).bind fun v38 =>
 let t40:Tm:=put (put (put (put (put (put o34.t 52 (o34.t 5)) 53 (o34.t 5)) 54 q37.1) 55 (o34.t 0)) 56 v38) 57 v38
 (gsel v38 true
 ((C 61 [t40 5,.int .i64 (-1000000000),.int .i64 1000000000] q37.2.1 (q37.2.2)).bind fun q41 =>
 some (put (put t40 58 (t40 5)) 59 q41.1,q41.2.1,q41.2.2))
 (some (put (put t40 58 (.tuple #[])) 59 (.tuple #[]),q37.2.1,q37.2.2))
 ).bind fun (q39:R3) =>
 (Zw (q39.1 57) (q39.1 59) (.bool false)).bind fun v42 =>
 iteK ([q39.1 52,v42].all notTup) <|
 some (.tuple ⟨[q39.1 52,v42]⟩,q39.2.1,q39.2.2))
 (finE o30.e
 (iteK ([o30.t 2,o30.t 3].all notTup) <|
 some (.tuple ⟨[o30.t 2,o30.t 3]⟩,o30.H,o30.n))))
theorem s109 (C:Zp) (L:Zs→Zs) (t:Tm) (H:Hp) (n:Nat):bodyK Try.prog C L Try.f109 t H n=S109 C L t H n:=by kernel_rfl
theorem c109 (args:List Value) (H:Hp) (n:Nat):Call Try.prog 109 args H n=S109 (Call Try.prog) Yf (Yg args) H n:=(Zu Try.func109 args H n).trans (s109 ..)
noncomputable def S110 (C:Zp) (L:Zs→Zs) (t:Tm) (H:Hp) (n:Nat):Option (Value × Hp × Nat) :=
 let H1:=H.set (n) (some (.row [.int .i64 0,.int .i64 0,.string ⟨#[]⟩,.int .i64 0,.int .i64 0] 0 true))
 (Zr .plain .eql (t 1) (.int .i64 0)).bind fun v2 =>
 let t4:Tm:=put (put (put (put t 4 (ptr (n) 0)) 6 (t 1)) 7 v2) 8 v2
 (gsel v2 false
 ((C 35 [t4 0,.int .i64 2] H1 (n+7)).bind fun q5 =>
 some (put (put t4 9 (t4 0)) 10 q5.1,q5.2.1,q5.2.2))
 (some (put (put t4 9 (.tuple #[])) 10 (.tuple #[]),H1,n+7))
 ).bind fun (q3:R3) =>
 (Zw (q3.1 8) (.bool true) (q3.1 10)).bind fun v6 =>
 csel v6
 ((C 121 [q3.1 0] q3.2.1 (q3.2.2+3)).bind fun q7 =>
 (st true 5 (q3.1 4) q7.1 q7.2.1).bind fun H8 =>
 (ld true 5 (q3.1 4) H8).bind fun v9 =>
 some (v9,H8,q7.2.2))
 ((Zr .plain .sub (q3.1 1) (.int .i64 1)).bind fun v10 =>
 (C 79 [q3.1 1,.int .i64 5] q3.2.1 (q3.2.2+8)).bind fun q11 =>
 (C 38 [q3.1 0,q11.1] q11.2.1 (q11.2.2)).bind fun q12 =>
 (Zr .plain .sub v10 q12.1).bind fun v13 =>
 (C 38 [q3.1 0,.int .i64 8] q12.2.1 (q12.2.2+2)).bind fun q14 =>
 (Zr .plain .eql q14.1 (.int .i64 0)).bind fun v15 =>
 csel v15
 ((C 38 [q3.1 0,.int .i64 9] q14.2.1 (q14.2.2+7)).bind fun q16 =>
 (bld [.int .i64 0,.int .i64 0,.string ⟨#[]⟩,.int .i64 0,.int .i64 0] [(0,1,.int .i64 6),(1,1,q16.1),(3,1,v13)]).bind fun v17 =>
 (st true 5 (q3.1 4) v17 q16.2.1).bind fun H18 =>
 (ld true 5 (q3.1 4) H18).bind fun v19 =>
 some (v19,H18,q16.2.2))
 ((Zr .plain .eql q14.1 (.int .i64 1)).bind fun v20 =>
 csel v20
 ((bld [.int .i64 0,.int .i64 0,.string ⟨#[]⟩,.int .i64 0,.int .i64 0] [(0,1,.int .i64 7),(3,1,v13)]).bind fun v21 =>
 (st true 5 (q3.1 4) v21 q14.2.1).bind fun H22 =>
 (ld true 5 (q3.1 4) H22).bind fun v23 =>
 some (v23,H22,q14.2.2+7))
 ((Zr .plain .sub (q3.1 1) (.int .i64 1)).bind fun v24 =>
 (C 79 [q3.1 1,.int .i64 4] q14.2.1 (q14.2.2+14)).bind fun q25 =>
 (C 38 [q3.1 0,q25.1] q25.2.1 (q25.2.2)).bind fun q26 =>
 (Zr .plain .sub v24 q26.1).bind fun v27 =>
 (bld [.int .i64 0,.int .i64 0,.string ⟨#[]⟩,.int .i64 0,.int .i64 0] [(0,1,.int .i64 5),(3,1,v13),(4,1,v27)]).bind fun v28 =>
 (st true 5 (q3.1 4) v28 q26.2.1).bind fun H29 =>
 (ld true 5 (q3.1 4) H29).bind fun v30 =>
 some (v30,H29,q26.2.2))))
theorem s110 (C:Zp) (L:Zs→Zs) (t:Tm) (H:Hp) (n:Nat):bodyK Try.prog C L Try.f110 t H n=S110 C L t H n:=by kernel_rfl
theorem c110 (args:List Value) (H:Hp) (n:Nat):Call Try.prog 110 args H n=S110 (Call Try.prog) Yf (Yg args) H n:=(Zu Try.func110 args H n).trans (s110 ..)
noncomputable def S116L0 (C:Zp) (L:Zs→Zs):Zs:=fun t H n =>
 (lenV false (t 1)).bind fun v2 =>
 (Zr .plain .lss (t 6) v2).bind fun v3 =>
 let t5:Tm:=put (put (put (put (put t 7 (t 6)) 8 (t 1)) 9 v2) 10 v3) 11 v3
 (gsel v3 true
 ((Ye (t5 0)).bind fun v6 =>
 (Zo 3 v6).bind fun v7 =>
 (ld false 1 v7 H).bind fun v8 =>
 (Zr .plain .eql v8 (.int .i64 0)).bind fun v9 =>
 some (put (put (put (put (put t5 12 (t5 0)) 13 v6) 14 v7) 15 v8) 16 v9,H,n+11))
 (some (put (put (put (put (put t5 12 (.tuple #[])) 13 (.tuple #[])) 14 (.tuple #[])) 15 (.tuple #[])) 16 (.tuple #[]),H,n+11))
 ).bind fun (q4:R3) =>
 (Zw (q4.1 11) (q4.1 16) (.bool false)).bind fun v10 =>
 csel v10
 ((Zr .plain .gtr (q4.1 6) (.int .i64 0)).bind fun v11 =>
 let t13:Tm:=put (put (put q4.1 17 v10) 20 (q4.1 6)) 21 v11
 (csel v11
 ((bld [.int .i64 0,.int .i64 0,.int .i64 0,.string ⟨#[]⟩] [(0,1,.int .i64 9)]).bind fun v14 =>
 (C 117 [t13 0,v14] q4.2.1 (q4.2.2+5)).bind fun q15 =>
 some ⟨.normal,put (put (put t13 22 (t13 0)) 23 v14) 24 q15.1,q15.2.1,q15.2.2⟩)
 (some ⟨.normal,t13,q4.2.1,q4.2.2+2⟩)
 ).bind fun (o12:Out) =>
 (idxA 1 (o12.t 1) (o12.t 6)).bind fun v16 =>
 (ld false 1 v16 o12.H).bind fun v17 =>
 (C 124 [o12.t 0,v17,o12.t 2] o12.H (o12.n+7)).bind fun q18 =>
 (Zr .plain .add (o12.t 6) (.int .i64 1)).bind fun v19 =>
 some ⟨.normal,put (put (put (put (put (put (put (put (put (put o12.t 25 (o12.t 0)) 26 (o12.t 1)) 27 (o12.t 6)) 28 v16) 29 v17) 30 (o12.t 2)) 31 q18.1) 18 (o12.t 6)) 19 v19) 6 v19,q18.2.1,q18.2.2+3⟩)
 (some ⟨(.exit 0),put q4.1 17 v10,q4.2.1,q4.2.2⟩)
noncomputable def S116 (C:Zp) (L:Zs→Zs) (t:Tm) (H:Hp) (n:Nat):Option (Value × Hp × Nat) :=
 (L (S116L0 C L) (put t 6 (.int .i64 0)) H (n+1)).bind fun (o1:Out) =>
 some (.tuple ⟨[]⟩,o1.H,o1.n)
theorem s116 (C:Zp) (L:Zs→Zs) (t:Tm) (H:Hp) (n:Nat):bodyK Try.prog C L Try.f116 t H n=S116 C L t H n:=by kernel_rfl
theorem c116 (args:List Value) (H:Hp) (n:Nat):Call Try.prog 116 args H n=S116 (Call Try.prog) Yf (Yg args) H n:=(Zu Try.func116 args H n).trans (s116 ..)
noncomputable def S117 (C:Zp) (L:Zs→Zs) (t:Tm) (H:Hp) (n:Nat):Option (Value × Hp × Nat) :=
 (vcells (t 1)).bind fun c2 =>
 let H1:=H.set (n) (some (.row c2 0 true))
 (Ye (t 0)).bind fun v3 =>
 (Zo 3 v3).bind fun v4 =>
 (ld false 1 v4 H1).bind fun v5 =>
 (Zr .plain .eql v5 (.int .i64 0)).bind fun v6 =>
 let t8:Tm:=put (put (put (put (put (put (put (put t 3 (ptr (n) 0)) 4 (.int .i64 0)) 5 (t 0)) 6 v3) 7 v4) 8 v5) 9 v6) 10 v6
 (gsel v6 true
 ((Ye (t8 0)).bind fun v9 =>
 (Zo 1 v9).bind fun v10 =>
 (ld false 1 v10 H1).bind fun v11 =>
 (lenV false v11).bind fun v12 =>
 (Zr .plain .eql v12 (.int .i64 400)).bind fun v13 =>
 some (put (put (put (put (put (put t8 11 (t8 0)) 12 v9) 13 v10) 14 v11) 15 v12) 16 v13,H1,n+15))
 (some (put (put (put (put (put (put t8 11 (.tuple #[])) 12 (.tuple #[])) 13 (.tuple #[])) 14 (.tuple #[])) 15 (.tuple #[])) 16 (.tuple #[]),H1,n+15))
 ).bind fun (q7:R3) =>
 (Zw (q7.1 10) (q7.1 16) (.bool false)).bind fun v14 =>
 let t16:Tm:=put q7.1 17 v14
 (csel v14
 ((Ye (t16 0)).bind fun v17 =>
 (Zo 3 v17).bind fun v18 =>
 (st false 1 v18 (.int .i64 3) q7.2.1).bind fun H19 =>
 some ⟨.normal,put (put (put t16 18 (t16 0)) 19 v17) 20 v18,H19,q7.2.2+4⟩)
 (some ⟨.normal,t16,q7.2.1,q7.2.2⟩)
 ).bind fun (o15:Out) =>
 (Ye (o15.t 0)).bind fun v20 =>
 (Zo 3 v20).bind fun v21 =>
 (ld false 1 v21 o15.H).bind fun v22 =>
 (Zr .plain .neq v22 (.int .i64 0)).bind fun v23 =>
 csel v23
 (some (.int .i64 0,o15.H,o15.n+6))
 ((Ye (o15.t 0)).bind fun v24 =>
 (Zo 1 v24).bind fun v25 =>
 (ld false 1 v25 o15.H).bind fun v26 =>
 (ld true 4 (o15.t 3) o15.H).bind fun v27 =>
 (bsl (o15.n+11) 4 1 [.int .i64 0,.int .i64 0,.int .i64 0,.string ⟨#[]⟩] [(0,4,v27)] o15.H).bind fun p28 =>
 (app (o15.n+12) 4 40 v26 p28.1 p28.2).bind fun p29 =>
 (Ye (o15.t 0)).bind fun v30 =>
 (Zo 1 v30).bind fun v31 =>
 (st false 1 v31 p29.1 p29.2).bind fun H32 =>
 (Ye (o15.t 0)).bind fun v33 =>
 (Zo 1 v33).bind fun v34 =>
 (ld false 1 v34 H32).bind fun v35 =>
 (lenV false v35).bind fun v36 =>
 (Zr .plain .sub v36 (.int .i64 1)).bind fun v37 =>
 some (v37,H32,o15.n+23))
theorem s117 (C:Zp) (L:Zs→Zs) (t:Tm) (H:Hp) (n:Nat):bodyK Try.prog C L Try.f117 t H n=S117 C L t H n:=by kernel_rfl
theorem c117 (args:List Value) (H:Hp) (n:Nat):Call Try.prog 117 args H n=S117 (Call Try.prog) Yf (Yg args) H n:=(Zu Try.func117 args H n).trans (s117 ..)
noncomputable def S118 (C:Zp) (L:Zs→Zs) (t:Tm) (H:Hp) (n:Nat):Option (Value × Hp × Nat) :=
 (Zr .plain .eql (t 0) (.string ⟨#[113,117,111,116,101]⟩)).bind fun v1 =>
 let t3:Tm:=put (put (put (put t 2 (.bool false)) 3 (t 0)) 4 v1) 5 v1
 (gsel v1 false
 ((Zr .plain .eql (t3 0) (.string ⟨#[105,102]⟩)).bind fun v4 =>
 some (put (put t3 6 (t3 0)) 7 v4,H,n+24))
 (some (put (put t3 6 (.tuple #[])) 7 (.tuple #[]),H,n+24))
 ).bind fun (q2:R3) =>
 (Zw (q2.1 5) (.bool true) (q2.1 7)).bind fun v5 =>
 let t7:Tm:=put (put q2.1 8 v5) 9 v5
 (gsel v5 false
 ((Zr .plain .eql (t7 0) (.string ⟨#[102,110]⟩)).bind fun v8 =>
 some (put (put t7 10 (t7 0)) 11 v8,q2.2.1,q2.2.2))
 (some (put (put t7 10 (.tuple #[])) 11 (.tuple #[]),q2.2.1,q2.2.2))
 ).bind fun (q6:R3) =>
 (Zw (q6.1 9) (.bool true) (q6.1 11)).bind fun v9 =>
 let t11:Tm:=put (put q6.1 12 v9) 13 v9
 (gsel v9 false
 ((Zr .plain .eql (t11 0) (.string ⟨#[100,111]⟩)).bind fun v12 =>
 some (put (put t11 14 (t11 0)) 15 v12,q6.2.1,q6.2.2))
 (some (put (put t11 14 (.tuple #[])) 15 (.tuple #[]),q6.2.1,q6.2.2))
 ).bind fun (q10:R3) =>
 (Zw (q10.1 13) (.bool true) (q10.1 15)).bind fun v13 =>
 let t15:Tm:=put (put q10.1 16 v13) 17 v13
 (gsel v13 false
 ((Zr .plain .eql (t15 0) (.string ⟨#[108,101,116]⟩)).bind fun v16 =>
 some (put (put t15 18 (t15 0)) 19 v16,q10.2.1,q10.2.2))
 (some (put (put t15 18 (.tuple #[])) 19 (.tuple #[]),q10.2.1,q10.2.2))
 ).bind fun (q14:R3) =>
 (Zw (q14.1 17) (.bool true) (q14.1 19)).bind fun v17 =>
 let t19:Tm:=put (put q14.1 20 v17) 21 v17
 (gsel v17 false
 ((Zr .plain .eql (t19 0) (.string ⟨#[100,101,102,105,110,101]⟩)).bind fun v20 =>
 some (put (put t19 22 (t19 0)) 23 v20,q14.2.1,q14.2.2))
 (some (put (put t19 22 (.tuple #[])) 23 (.tuple #[]),q14.2.1,q14.2.2))
 ).bind fun (q18:R3) =>
 (Zw (q18.1 21) (.bool true) (q18.1 23)).bind fun v21 =>
 some (v21,q18.2.1,q18.2.2)
theorem s118 (C:Zp) (L:Zs→Zs) (t:Tm) (H:Hp) (n:Nat):bodyK Try.prog C L Try.f118 t H n=S118 C L t H n:=by kernel_rfl
theorem c118 (args:List Value) (H:Hp) (n:Nat):Call Try.prog 118 args H n=S118 (Call Try.prog) Yf (Yg args) H n:=(Zu Try.func118 args H n).trans (s118 ..)
noncomputable def S119 (C:Zp) (L:Zs→Zs) (t:Tm) (H:Hp) (n:Nat):Option (Value × Hp × Nat) :=
 (C 125 [t 0,t 1] H (n+6)).bind fun q1 =>
 (Zr .plain .geq q1.1 (.int .i64 0)).bind fun v2 =>
 some (v2,q1.2.1,q1.2.2)
theorem s119 (C:Zp) (L:Zs→Zs) (t:Tm) (H:Hp) (n:Nat):bodyK Try.prog C L Try.f119 t H n=S119 C L t H n:=by kernel_rfl
theorem c119 (args:List Value) (H:Hp) (n:Nat):Call Try.prog 119 args H n=S119 (Call Try.prog) Yf (Yg args) H n:=(Zu Try.func119 args H n).trans (s119 ..)
noncomputable def S120L0 (C:Zp) (L:Zs→Zs):Zs:=fun t H n =>
 (Zr .plain .gtr (t 0) (.int .i64 0)).bind fun v7 =>
 csel v7
 ((Zr .plain .rem (t 0) (.int .i64 10)).bind fun v8 =>
 (Zr .plain .add (.int .i64 48) v8).bind fun v9 =>
 (conv (.toInt .u8) (n+5) v9 H).bind fun p10 =>
 (bsl (n+6) 1 1 [.int .u8 0] [(0,1,p10.1)] p10.2).bind fun p11 =>
 (conv .bytesToStr (n+7) p11.1 p11.2).bind fun p12 =>
 (Zr .plain .add p12.1 (t 3)).bind fun v13 =>
 (Zr .plain .quo (t 0) (.int .i64 10)).bind fun v14 =>
 some ⟨.normal,put (put (put (put (put (put (put (put (put (put (put (put (put (put t 12 (t 0)) 13 v7) 14 (t 0)) 15 v8) 16 v9) 17 p10.1) 18 p11.1) 19 p12.1) 20 (t 3)) 21 v13) 3 v13) 22 (t 0)) 23 v14) 0 v14,p12.2,n+14⟩)
 (some ⟨(.exit 0),put (put t 12 (t 0)) 13 v7,H,n+2⟩)
noncomputable def S120 (C:Zp) (L:Zs→Zs) (t:Tm) (H:Hp) (n:Nat):Option (Value × Hp × Nat) :=
 (Zr .plain .lss (t 0) (.int .i64 0)).bind fun v1 =>
 csel v1
 ((Zr .plain .sub (.int .i64 0) (t 0)).bind fun v2 =>
 (C 120 [v2] H (n+8)).bind fun q3 =>
 (Zr .plain .add (.string ⟨#[45]⟩) q3.1).bind fun v4 =>
 some (v4,q3.2.1,q3.2.2))
 ((Zr .plain .eql (t 0) (.int .i64 0)).bind fun v5 =>
 csel v5
 (some (.string ⟨#[48]⟩,H,n+6))
 ((L (S120L0 C L) (put (put (put (put (put (put t 2 (.string ⟨#[]⟩)) 4 (t 0)) 5 v1) 10 (t 0)) 11 v5) 3 (.string ⟨#[]⟩)) H (n+6)).bind fun (o6:Out) =>
 some (o6.t 3,o6.H,o6.n+2)))
theorem s120 (C:Zp) (L:Zs→Zs) (t:Tm) (H:Hp) (n:Nat):bodyK Try.prog C L Try.f120 t H n=S120 C L t H n:=by kernel_rfl
theorem c120 (args:List Value) (H:Hp) (n:Nat):Call Try.prog 120 args H n=S120 (Call Try.prog) Yf (Yg args) H n:=(Zu Try.func120 args H n).trans (s120 ..)
noncomputable def S121 (C:Zp) (L:Zs→Zs) (t:Tm) (H:Hp) (n:Nat):Option (Value × Hp × Nat) :=
 let H1:=H.set (n) (some (.row [.int .i64 0,.int .i64 0,.string ⟨#[]⟩,.int .i64 0,.int .i64 0] 0 true))
 (C 38 [t 0,.int .i64 8] H1 (n+3)).bind fun q2 =>
 (Zr .plain .eql q2.1 (.int .i64 0)).bind fun v3 =>
 csel v3
 ((bld [.int .i64 0,.int .i64 0,.string ⟨#[]⟩,.int .i64 0,.int .i64 0] [(0,1,.int .i64 1)]).bind fun v4 =>
 (st true 5 (ptr (n) 0) v4 q2.2.1).bind fun H5 =>
 (ld true 5 (ptr (n) 0) H5).bind fun v6 =>
 some (v6,H5,q2.2.2+4))
 ((Zr .plain .eql q2.1 (.int .i64 1)).bind fun v7 =>
 csel v7
 ((C 38 [t 0,.int .i64 2] q2.2.1 (q2.2.2+8)).bind fun q8 =>
 (bld [.int .i64 0,.int .i64 0,.string ⟨#[]⟩,.int .i64 0,.int .i64 0] [(0,1,.int .i64 2),(1,1,q8.1)]).bind fun v9 =>
 (st true 5 (ptr (n) 0) v9 q8.2.1).bind fun H10 =>
 (ld true 5 (ptr (n) 0) H10).bind fun v11 =>
 some (v11,H10,q8.2.2))
 ((Zr .plain .eql q2.1 (.int .i64 2)).bind fun v12 =>
 csel v12
 ((bsl (q2.2.2+7) 1 6 [.string ⟨#[]⟩] [(0,1,.string ⟨#[97]⟩),(1,1,.string ⟨#[98,99]⟩),(2,1,.string ⟨#[120]⟩),(3,1,.string ⟨#[102]⟩),(4,1,.string ⟨#[43]⟩),(5,1,.string ⟨#[108,105,115,116]⟩)] q2.2.1).bind fun p13 =>
 (C 58 [t 0,p13.1] p13.2 (q2.2.2+11)).bind fun q14 =>
 (bld [.int .i64 0,.int .i64 0,.string ⟨#[]⟩,.int .i64 0,.int .i64 0] [(0,1,.int .i64 4),(2,1,q14.1)]).bind fun v15 =>
 (st true 5 (ptr (n) 0) v15 q14.2.1).bind fun H16 =>
 (ld true 5 (ptr (n) 0) H16).bind fun v17 =>
 some (v17,H16,q14.2.2))
 ((Zr .plain .eql q2.1 (.int .i64 3)).bind fun v18 =>
 csel v18
 ((C 38 [t 0,.int .i64 5] q2.2.1 (q2.2.2+12)).bind fun q19 =>
 (bld [.int .i64 0,.int .i64 0,.string ⟨#[]⟩,.int .i64 0,.int .i64 0] [(0,1,.int .i64 9),(1,1,q19.1)]).bind fun v20 =>
 (st true 5 (ptr (n) 0) v20 q19.2.1).bind fun H21 =>
 (ld true 5 (ptr (n) 0) H21).bind fun v22 =>
 some (v22,H21,q19.2.2))
 ((Zr .plain .eql q2.1 (.int .i64 4)).bind fun v23 =>
 csel v23
 ((C 38 [t 0,.int .i64 5] q2.2.1 (q2.2.2+14)).bind fun q24 =>
 (bld [.int .i64 0,.int .i64 0,.string ⟨#[]⟩,.int .i64 0,.int .i64 0] [(0,1,.int .i64 8),(1,1,q24.1)]).bind fun v25 =>
 (st true 5 (ptr (n) 0) v25 q24.2.1).bind fun H26 =>
 (ld true 5 (ptr (n) 0) H26).bind fun v27 =>
 some (v27,H26,q24.2.2))
 ((C 38 [t 0,.int .i64 12] q2.2.1 (q2.2.2+15)).bind fun q28 =>
 (Zr .plain .sub q28.1 (.int .i64 3)).bind fun v29 =>
 (bld [.int .i64 0,.int .i64 0,.string ⟨#[]⟩,.int .i64 0,.int .i64 0] [(0,1,.int .i64 3),(1,1,v29)]).bind fun v30 =>
 (st true 5 (ptr (n) 0) v30 q28.2.1).bind fun H31 =>
 (ld true 5 (ptr (n) 0) H31).bind fun v32 =>
 some (v32,H31,q28.2.2))))))
theorem s121 (C:Zp) (L:Zs→Zs) (t:Tm) (H:Hp) (n:Nat):bodyK Try.prog C L Try.f121 t H n=S121 C L t H n:=by kernel_rfl
theorem c121 (args:List Value) (H:Hp) (n:Nat):Call Try.prog 121 args H n=S121 (Call Try.prog) Yf (Yg args) H n:=(Zu Try.func121 args H n).trans (s121 ..)
noncomputable def S124L0 (C:Zp) (L:Zs→Zs):Zs:=fun t H n =>
 (lenV false (t 9)).bind fun v87 =>
 (Zr .plain .lss (t 12) v87).bind fun v88 =>
 csel v88
 ((idxA 1 (t 9) (t 12)).bind fun v89 =>
 (ld false 1 v89 H).bind fun v90 =>
 (C 124 [t 0,v90,t 2] H (n+11)).bind fun q91 =>
 (Zr .plain .add (t 12) (.int .i64 1)).bind fun v92 =>
 some ⟨.normal,put (put (put (put (put (put (put (put (put (put (put (put (put (put t 113 (t 12)) 114 (t 9)) 115 v87) 116 v88) 119 (t 0)) 120 (t 9)) 121 (t 12)) 122 v89) 123 v90) 124 (t 2)) 125 q91.1) 117 (t 12)) 118 v92) 12 v92,q91.2.1,q91.2.2+3⟩)
 (some ⟨(.exit 1),put (put (put (put t 113 (t 12)) 114 (t 9)) 115 v87) 116 v88,H,n+4⟩)
noncomputable def S124 (C:Zp) (L:Zs→Zs) (t:Tm) (H:Hp) (n:Nat):Option (Value × Hp × Nat) :=
 (Ye (t 0)).bind fun v1 =>
 (Zo 3 v1).bind fun v2 =>
 (ld false 1 v2 H).bind fun v3 =>
 (Zr .plain .neq v3 (.int .i64 0)).bind fun v4 =>
 csel v4
 (some (.tuple ⟨[]⟩,H,n+5))
 ((Ye (t 0)).bind fun v5 =>
 (Zo 0 v5).bind fun v6 =>
 (Zo 0 v6).bind fun v7 =>
 (ld false 1 v7 H).bind fun v8 =>
 (idxA 5 v8 (t 1)).bind fun v9 =>
 (ld true 5 v9 H).bind fun v10 =>
 let H11:=H.set (n+13) (some (.row [.int .i64 0,.int .i64 0,.string ⟨#[]⟩,.int .i64 0,.int .i64 0] 0 true))
 (st true 5 (ptr (n+13) 0) v10 H11).bind fun H12 =>
 (Zo 0 (ptr (n+13) 0)).bind fun v13 =>
 (ld false 1 v13 H12).bind fun v14 =>
 (Zr .plain .eql v14 (.int .i64 1)).bind fun v15 =>
 let t17:Tm:=put (put (put (put (put (put (put (put (put (put (put (put (put (put (put (put (put (put t 13 (t 0)) 14 v1) 15 v2) 16 v3) 17 v4) 18 (t 0)) 19 v5) 20 v6) 21 v7) 22 v8) 23 (t 1)) 24 v9) 25 v10) 6 (ptr (n+13) 0)) 26 v13) 27 v14) 29 v15) 28 v15
 (csel v15
 (some ⟨.normal,t17,H12,n+19⟩)
 ((Zr .plain .eql v14 (.int .i64 2)).bind fun v18 =>
 let t20:Tm:=put (put t17 30 v18) 28 v18
 (csel v18
 (some ⟨.normal,t20,H12,n+21⟩)
 ((Zr .plain .eql v14 (.int .i64 3)).bind fun v21 =>
 some ⟨.normal,put (put t20 31 v21) 28 v21,H12,n+23⟩)
 ).bind fun (o19:Out) =>
 some ⟨.normal,o19.t,o19.H,o19.n⟩)
 ).bind fun (o16:Out) =>
 csel (o16.t 28)
 ((bld [.int .i64 0,.int .i64 0,.int .i64 0,.string ⟨#[]⟩] [(0,1,.int .i64 1),(1,1,o16.t 1)]).bind fun v22 =>
 (C 117 [o16.t 0,v22] o16.H (o16.n+4)).bind fun q23 =>
 some (.tuple ⟨[]⟩,q23.2.1,q23.2.2))
 ((Zr .plain .eql (o16.t 27) (.int .i64 4)).bind fun v24 =>
 csel v24
 ((Zo 2 (o16.t 6)).bind fun v25 =>
 (ld false 1 v25 o16.H).bind fun v26 =>
 (C 118 [v26] o16.H (o16.n+5)).bind fun q27 =>
 csel q27.1
 ((Ye (o16.t 0)).bind fun v28 =>
 (Zo 3 v28).bind fun v29 =>
 (st false 1 v29 (.int .i64 1) q27.2.1).bind fun H30 =>
 some (.tuple ⟨[]⟩,H30,q27.2.2+4))
 ((Zo 2 (o16.t 6)).bind fun v31 =>
 (ld false 1 v31 q27.2.1).bind fun v32 =>
 (C 129 [o16.t 2,v32] q27.2.1 (q27.2.2+9)).bind fun q33 =>
 (ext 0 q33.1).bind fun v34 =>
 (ext 1 q33.1).bind fun v35 =>
 (Zr .plain .geq v34 (.int .i64 0)).bind fun v36 =>
 csel v36
 ((bld [.int .i64 0,.int .i64 0,.int .i64 0,.string ⟨#[]⟩] [(0,1,.int .i64 2),(1,1,v34),(2,1,v35)]).bind fun v37 =>
 (C 117 [o16.t 0,v37] q33.2.1 (q33.2.2+7)).bind fun q38 =>
 some (.tuple ⟨[]⟩,q38.2.1,q38.2.2))
 ((Zo 2 (o16.t 6)).bind fun v39 =>
 (ld false 1 v39 q33.2.1).bind fun v40 =>
 (bld [.int .i64 0,.int .i64 0,.int .i64 0,.string ⟨#[]⟩] [(0,1,.int .i64 3),(3,1,v40)]).bind fun v41 =>
 (C 117 [o16.t 0,v41] q33.2.1 (q33.2.2+7)).bind fun q42 =>
 some (.tuple ⟨[]⟩,q42.2.1,q42.2.2))))
 ((Zo 0 (o16.t 6)).bind fun v43 =>
 (ld false 1 v43 o16.H).bind fun v44 =>
 (Zr .plain .neq v44 (.int .i64 5)).bind fun v45 =>
 csel v45
 ((Ye (o16.t 0)).bind fun v46 =>
 (Zo 3 v46).bind fun v47 =>
 (st false 1 v47 (.int .i64 1) o16.H).bind fun H48 =>
 some (.tuple ⟨[]⟩,H48,o16.n+9))
 ((Ye (o16.t 0)).bind fun v49 =>
 (Zo 0 v49).bind fun v50 =>
 (ld true 1 v50 o16.H).bind fun v51 =>
 (C 94 [v51,o16.t 1] o16.H (o16.n+16)).bind fun q52 =>
 (ext 0 q52.1).bind fun v53 =>
 (ext 1 q52.1).bind fun v54 =>
 (un .not v54).bind fun v55 =>
 csel v55
 ((Ye (o16.t 0)).bind fun v56 =>
 (Zo 3 v56).bind fun v57 =>
 (st false 1 v57 (.int .i64 1) q52.2.1).bind fun H58 =>
 some (.tuple ⟨[]⟩,H58,q52.2.2+6))
 ((Ye (o16.t 0)).bind fun v59 =>
 (Zo 0 v59).bind fun v60 =>
 (Zo 0 v60).bind fun v61 =>
 (ld false 1 v61 q52.2.1).bind fun v62 =>
 (idxA 1 v53 (.int .i64 0)).bind fun v63 =>
 (ld false 1 v63 q52.2.1).bind fun v64 =>
 (idxA 5 v62 v64).bind fun v65 =>
 (ld true 5 v65 q52.2.1).bind fun v66 =>
 let H67:=q52.2.1.set (q52.2.2+12) (some (.row [.int .i64 0,.int .i64 0,.string ⟨#[]⟩,.int .i64 0,.int .i64 0] 0 true))
 (st true 5 (ptr (q52.2.2+12) 0) v66 H67).bind fun H68 =>
 (Zo 0 (ptr (q52.2.2+12) 0)).bind fun v69 =>
 (ld false 1 v69 H68).bind fun v70 =>
 (Zr .plain .eql v70 (.int .i64 4)).bind fun v71 =>
 let t73:Tm:=put (put (put (put (put (put (put (put (put (put (put (put (put (put (put (put (put (put (put (put (put (put (put (put (put (put (put (put (put (put (put (put (put o16.t 37 v24) 36 v24) 63 v43) 64 v44) 65 v45) 70 (o16.t 0)) 71 v49) 72 v50) 73 v51) 74 (o16.t 1)) 75 q52.1) 69 q52.1) 76 v53) 77 v54) 9 v53) 10 v54) 78 v54) 79 v55) 83 (o16.t 0)) 84 v59) 85 v60) 86 v61) 87 v62) 88 v53) 89 v63) 90 v64) 91 v65) 92 v66) 11 (ptr (q52.2.2+12) 0)) 93 v69) 94 v70) 95 v71) 96 v71
 (gsel v71 true
 ((Zo 2 (ptr (q52.2.2+12) 0)).bind fun v74 =>
 (ld false 1 v74 H68).bind fun v75 =>
 (C 118 [v75] H68 (q52.2.2+22)).bind fun q76 =>
 some (put (put (put t73 97 v74) 98 v75) 99 q76.1,q76.2.1,q76.2.2))
 (some (put (put (put t73 97 (.tuple #[])) 98 (.tuple #[])) 99 (.tuple #[]),H68,q52.2.2+22))
 ).bind fun (q72:R3) =>
 (Zw (q72.1 96) (q72.1 99) (.bool false)).bind fun v77 =>
 csel v77
 ((Zo 2 (q72.1 11)).bind fun v78 =>
 (ld false 1 v78 q72.2.1).bind fun v79 =>
 (C 130 [q72.1 0,v79,q72.1 9,q72.1 2] q72.2.1 (q72.2.2+6)).bind fun q80 =>
 some (.tuple ⟨[]⟩,q80.2.1,q80.2.2))
 ((lenV false (q72.1 9)).bind fun v81 =>
 (Zr .plain .gtr v81 (.int .i64 5)).bind fun v82 =>
 csel v82
 ((Ye (q72.1 0)).bind fun v83 =>
 (Zo 3 v83).bind fun v84 =>
 (st false 1 v84 (.int .i64 1) q72.2.1).bind fun H85 =>
 some (.tuple ⟨[]⟩,H85,q72.2.2+7))
 ((L (S124L0 C L) (put (put (put (put (put q72.1 100 v77) 107 (q72.1 9)) 108 v81) 109 v82) 12 (.int .i64 0)) q72.2.1 (q72.2.2+4)).bind fun (o86:Out) =>
 (lenV false (o86.t 9)).bind fun v93 =>
 (Zr .plain .sub v93 (.int .i64 1)).bind fun v94 =>
 (bld [.int .i64 0,.int .i64 0,.int .i64 0,.string ⟨#[]⟩] [(0,1,.int .i64 7),(2,1,v94)]).bind fun v95 =>
 (C 117 [o86.t 0,v95] o86.H (o86.n+6)).bind fun q96 =>
 some (.tuple ⟨[]⟩,q96.2.1,q96.2.2))))))))
theorem s124 (C:Zp) (L:Zs→Zs) (t:Tm) (H:Hp) (n:Nat):bodyK Try.prog C L Try.f124 t H n=S124 C L t H n:=by kernel_rfl
theorem c124 (args:List Value) (H:Hp) (n:Nat):Call Try.prog 124 args H n=S124 (Call Try.prog) Yf (Yg args) H n:=(Zu Try.func124 args H n).trans (s124 ..)
noncomputable def S125L0 (C:Zp) (L:Zs→Zs):Zs:=fun t H n =>
 (Zr .plain .lss (t 8) (t 7)).bind fun v3 =>
 csel v3
 ((idxA 1 (t 0) (t 8)).bind fun v4 =>
 (ld false 1 v4 H).bind fun v5 =>
 (Zr .plain .eql (t 1) v5).bind fun v6 =>
 csel v6
 (some ⟨.ret,put (put (put (put (put (put (put (put (put (put (put t 9 v3) 10 (t 8)) 5 (t 8)) 11 (t 1)) 12 (t 0)) 13 (t 8)) 14 v4) 15 v5) 16 v6) 17 (t 8)) 4 (t 8),H,n+11⟩)
 ((Zr .plain .add (t 8) (.int .i64 1)).bind fun v7 =>
 some ⟨.normal,put (put (put (put (put (put (put (put (put (put (put t 9 v3) 10 (t 8)) 5 (t 8)) 11 (t 1)) 12 (t 0)) 13 (t 8)) 14 v4) 15 v5) 16 v6) 18 v7) 8 v7,H,n+11⟩))
 (some ⟨(.exit 0),put t 9 v3,H,n+1⟩)
noncomputable def S125 (C:Zp) (L:Zs→Zs) (t:Tm) (H:Hp) (n:Nat):Option (Value × Hp × Nat) :=
 (lenV false (t 0)).bind fun v1 =>
 (L (S125L0 C L) (put (put (put (put t 4 (.int .i64 0)) 6 (t 0)) 7 v1) 8 (.int .i64 0)) H (n+4)).bind fun (o2:Out) =>
 let o8:=outOf 0 o2
 thenK o8
 (some (.int .i64 (-1),o8.H,o8.n+1))
 (finE o8.e
 (some (o8.t 4,o8.H,o8.n)))
theorem s125 (C:Zp) (L:Zs→Zs) (t:Tm) (H:Hp) (n:Nat):bodyK Try.prog C L Try.f125 t H n=S125 C L t H n:=by kernel_rfl
theorem c125 (args:List Value) (H:Hp) (n:Nat):Call Try.prog 125 args H n=S125 (Call Try.prog) Yf (Yg args) H n:=(Zu Try.func125 args H n).trans (s125 ..)
noncomputable def S129L1 (C:Zp) (L:Zs→Zs):Zs:=fun t H n =>
 (idxA 1 (t 0) (t 6)).bind fun v5 =>
 (ld false 1 v5 H).bind fun v6 =>
 (lenV false v6).bind fun v7 =>
 (Zr .plain .lss (t 7) v7).bind fun v8 =>
 csel v8
 ((idxA 1 (t 0) (t 6)).bind fun v9 =>
 (ld false 1 v9 H).bind fun v10 =>
 (idxA 1 v10 (t 7)).bind fun v11 =>
 (ld false 1 v11 H).bind fun v12 =>
 (Zr .plain .eql v12 (t 1)).bind fun v13 =>
 csel v13
 (some ⟨.ret,put (put (put (put (put (put (put (put (put (put (put (put (put (put (put (put (put (put (put (put t 14 (t 7)) 15 (t 0)) 16 (t 6)) 17 v5) 18 v6) 19 v7) 20 v8) 23 (t 0)) 24 (t 6)) 25 v9) 26 v10) 27 (t 7)) 28 v11) 29 v12) 30 (t 1)) 31 v13) 32 (t 6)) 33 (t 7)) 4 (t 6)) 5 (t 7),H,n+20⟩)
 ((Zr .plain .add (t 7) (.int .i64 1)).bind fun v14 =>
 some ⟨.normal,put (put (put (put (put (put (put (put (put (put (put (put (put (put (put (put (put (put (put t 14 (t 7)) 15 (t 0)) 16 (t 6)) 17 v5) 18 v6) 19 v7) 20 v8) 23 (t 0)) 24 (t 6)) 25 v9) 26 v10) 27 (t 7)) 28 v11) 29 v12) 30 (t 1)) 31 v13) 21 (t 7)) 22 v14) 7 v14,H,n+19⟩))
 (some ⟨(.exit 2),put (put (put (put (put (put (put t 14 (t 7)) 15 (t 0)) 16 (t 6)) 17 v5) 18 v6) 19 v7) 20 v8,H,n+7⟩)
noncomputable def S129L0 (C:Zp) (L:Zs→Zs):Zs:=fun t H n =>
 (lenV false (t 0)).bind fun v2 =>
 (Zr .plain .lss (t 6) v2).bind fun v3 =>
 csel v3
 ((L (S129L1 C L) (put (put (put (put (put t 8 (t 6)) 9 (t 0)) 10 v2) 11 v3) 7 (.int .i64 0)) H (n+5)).bind fun (o4:Out) =>
 let o15:=outOf 2 o4
 let o16:=outOf 1 o15
 thenK o16
 ((Zr .plain .add (o16.t 6) (.int .i64 1)).bind fun v17 =>
 some ⟨.normal,put (put (put o16.t 12 (o16.t 6)) 13 v17) 6 v17,o16.H,o16.n+3⟩)
 (some o16))
 (some ⟨(.exit 0),put (put (put (put t 8 (t 6)) 9 (t 0)) 10 v2) 11 v3,H,n+4⟩)
noncomputable def S129 (C:Zp) (L:Zs→Zs) (t:Tm) (H:Hp) (n:Nat):Option (Value × Hp × Nat) :=
 (L (S129L0 C L) (put (put (put t 4 (.int .i64 0)) 5 (.int .i64 0)) 6 (.int .i64 0)) H (n+3)).bind fun (o1:Out) =>
 let o18:=outOf 0 o1
 thenK o18
 (iteK ([.int .i64 (-1),.int .i64 0].all notTup) <|
 some (.tuple ⟨[.int .i64 (-1),.int .i64 0]⟩,o18.H,o18.n+2))
 (finE o18.e
 (iteK ([o18.t 4,o18.t 5].all notTup) <|
 some (.tuple ⟨[o18.t 4,o18.t 5]⟩,o18.H,o18.n)))
theorem s129 (C:Zp) (L:Zs→Zs) (t:Tm) (H:Hp) (n:Nat):bodyK Try.prog C L Try.f129 t H n=S129 C L t H n:=by kernel_rfl
theorem c129 (args:List Value) (H:Hp) (n:Nat):Call Try.prog 129 args H n=S129 (Call Try.prog) Yf (Yg args) H n:=(Zu Try.func129 args H n).trans (s129 ..)
noncomputable def S130 (C:Zp) (L:Zs→Zs) (t:Tm) (H:Hp) (n:Nat):Option (Value × Hp × Nat) :=
 (lenV false (t 2)).bind fun v1 =>
 (Zr .plain .eql (t 1) (.string ⟨#[113,117,111,116,101]⟩)).bind fun v2 =>
 let t4:Tm:=put (put (put (put (put (put t 15 (t 2)) 16 v1) 8 v1) 21 (t 1)) 22 v2) 23 v2
 (gsel v2 true
 ((Zr .plain .eql v1 (.int .i64 2)).bind fun v5 =>
 some (put (put t4 24 v1) 25 v5,H,n+10))
 (some (put (put t4 24 (.tuple #[])) 25 (.tuple #[]),H,n+10))
 ).bind fun (q3:R3) =>
 (Zw (q3.1 23) (q3.1 25) (.bool false)).bind fun v6 =>
 let t8:Tm:=put (put q3.1 26 v6) 20 v6
 (csel v6
 ((idxA 1 (t8 2) (.int .i64 1)).bind fun v9 =>
 (ld false 1 v9 q3.2.1).bind fun v10 =>
 (bld [.int .i64 0,.int .i64 0,.int .i64 0,.string ⟨#[]⟩] [(0,1,.int .i64 1),(1,1,v10)]).bind fun v11 =>
 (C 117 [t8 0,v11] q3.2.1 (q3.2.2+6)).bind fun q12 =>
 some ⟨.normal,put (put (put (put (put (put t8 27 (t8 0)) 28 (t8 2)) 29 v9) 30 v10) 31 v11) 32 q12.1,q12.2.1,q12.2.2⟩)
 ((Zr .plain .eql (t8 1) (.string ⟨#[105,102]⟩)).bind fun v13 =>
 let t15:Tm:=put (put (put t8 34 (t8 1)) 35 v13) 36 v13
 (gsel v13 true
 ((Zr .plain .eql (t15 8) (.int .i64 4)).bind fun v16 =>
 some (put (put t15 37 (t15 8)) 38 v16,q3.2.1,q3.2.2+7))
 (some (put (put t15 37 (.tuple #[])) 38 (.tuple #[]),q3.2.1,q3.2.2+7))
 ).bind fun (q14:R3) =>
 (Zw (q14.1 36) (q14.1 38) (.bool false)).bind fun v17 =>
 let t19:Tm:=put (put q14.1 39 v17) 33 v17
 (csel v17
 ((idxA 1 (t19 2) (.int .i64 1)).bind fun v20 =>
 (ld false 1 v20 q14.2.1).bind fun v21 =>
 (C 124 [t19 0,v21,t19 3] q14.2.1 (q14.2.2+6)).bind fun q22 =>
 (bld [.int .i64 0,.int .i64 0,.int .i64 0,.string ⟨#[]⟩] [(0,1,.int .i64 4)]).bind fun v23 =>
 (C 117 [t19 0,v23] q22.2.1 (q22.2.2+4)).bind fun q24 =>
 (idxA 1 (t19 2) (.int .i64 2)).bind fun v25 =>
 (ld false 1 v25 q24.2.1).bind fun v26 =>
 (C 124 [t19 0,v26,t19 3] q24.2.1 (q24.2.2+6)).bind fun q27 =>
 (bld [.int .i64 0,.int .i64 0,.int .i64 0,.string ⟨#[]⟩] [(0,1,.int .i64 5)]).bind fun v28 =>
 (C 117 [t19 0,v28] q27.2.1 (q27.2.2+4)).bind fun q29 =>
 (C 133 [t19 0,q24.1] q29.2.1 (q29.2.2+3)).bind fun q30 =>
 (idxA 1 (t19 2) (.int .i64 3)).bind fun v31 =>
 (ld false 1 v31 q30.2.1).bind fun v32 =>
 (C 124 [t19 0,v32,t19 3] q30.2.1 (q30.2.2+6)).bind fun q33 =>
 (C 133 [t19 0,q29.1] q33.2.1 (q33.2.2+3)).bind fun q34 =>
 some ⟨.normal,put (put (put (put (put (put (put (put (put (put (put (put (put (put (put (put (put (put (put (put (put (put (put (put (put (put (put (put (put (put (put (put t19 40 (t19 0)) 41 (t19 2)) 42 v20) 43 v21) 44 (t19 3)) 45 q22.1) 46 (t19 0)) 47 v23) 48 q24.1) 9 q24.1) 49 (t19 0)) 50 (t19 2)) 51 v25) 52 v26) 53 (t19 3)) 54 q27.1) 55 (t19 0)) 56 v28) 57 q29.1) 10 q29.1) 58 (t19 0)) 59 q24.1) 60 q30.1) 61 (t19 0)) 62 (t19 2)) 63 v31) 64 v32) 65 (t19 3)) 66 q33.1) 67 (t19 0)) 68 q29.1) 69 q34.1,q34.2.1,q34.2.2⟩)
 ((Zr .plain .eql (t19 1) (.string ⟨#[100,111]⟩)).bind fun v35 =>
 let t37:Tm:=put (put (put t19 71 (t19 1)) 72 v35) 73 v35
 (gsel v35 true
 ((Zr .plain .geq (t37 8) (.int .i64 2)).bind fun v38 =>
 some (put (put t37 74 (t37 8)) 75 v38,q14.2.1,q14.2.2+7))
 (some (put (put t37 74 (.tuple #[])) 75 (.tuple #[]),q14.2.1,q14.2.2+7))
 ).bind fun (q36:R3) =>
 (Zw (q36.1 73) (q36.1 75) (.bool false)).bind fun v39 =>
 let t41:Tm:=put (put q36.1 76 v39) 70 v39
 (csel v39
 ((sliceV 1 (t41 2) (some (.int .i64 1)) none).bind fun v42 =>
 (C 116 [t41 0,v42,t41 3] q36.2.1 (q36.2.2+5)).bind fun q43 =>
 some ⟨.normal,put (put (put (put (put t41 77 (t41 0)) 78 (t41 2)) 79 v42) 80 (t41 3)) 81 q43.1,q43.2.1,q43.2.2⟩)
 ((Zr .plain .eql (t41 1) (.string ⟨#[102,110]⟩)).bind fun v44 =>
 let t46:Tm:=put (put (put t41 83 (t41 1)) 84 v44) 85 v44
 (gsel v44 true
 ((Zr .plain .geq (t46 8) (.int .i64 3)).bind fun v47 =>
 some (put (put t46 86 (t46 8)) 87 v47,q36.2.1,q36.2.2+7))
 (some (put (put t46 86 (.tuple #[])) 87 (.tuple #[]),q36.2.1,q36.2.2+7))
 ).bind fun (q45:R3) =>
 (Zw (q45.1 85) (q45.1 87) (.bool false)).bind fun v48 =>
 let t50:Tm:=put (put q45.1 88 v48) 82 v48
 (csel v48
 ((Ye (t50 0)).bind fun v51 =>
 (Zo 0 v51).bind fun v52 =>
 (ld true 1 v52 q45.2.1).bind fun v53 =>
 (idxA 1 (t50 2) (.int .i64 1)).bind fun v54 =>
 (ld false 1 v54 q45.2.1).bind fun v55 =>
 (C 94 [v53,v55] q45.2.1 (q45.2.2+13)).bind fun q56 =>
 (ext 0 q56.1).bind fun v57 =>
 (ext 1 q56.1).bind fun v58 =>
 (un .not v58).bind fun v59 =>
 csel v59
 ((Ye (t50 0)).bind fun v60 =>
 (Zo 3 v60).bind fun v61 =>
 (st false 1 v61 (.int .i64 1) q56.2.1).bind fun H62 =>
 some ⟨.ret,put (put (put (put (put (put (put (put (put (put (put (put (put (put (put (put (put (put t50 90 (t50 0)) 91 v51) 92 v52) 93 v53) 94 (t50 2)) 95 v54) 96 v55) 97 q56.1) 89 q56.1) 98 v57) 99 v58) 11 v57) 12 v58) 100 v58) 101 v59) 102 (t50 0)) 103 v60) 104 v61,H62,q56.2.2+6⟩)
 ((C 97 [t50 0,v57] q56.2.1 (q56.2.2+6)).bind fun q63 =>
 (sliceV 1 (t50 2) (some (.int .i64 2)) none).bind fun v64 =>
 (C 134 [t50 0,q63.1,v64,t50 3] q63.2.1 (q63.2.2+6)).bind fun q65 =>
 some ⟨.normal,put (put (put (put (put (put (put (put (put (put (put (put (put (put (put (put (put (put (put (put (put (put (put (put (put t50 90 (t50 0)) 91 v51) 92 v52) 93 v53) 94 (t50 2)) 95 v54) 96 v55) 97 q56.1) 89 q56.1) 98 v57) 99 v58) 11 v57) 12 v58) 100 v58) 101 v59) 105 (t50 0)) 106 v57) 107 q63.1) 13 q63.1) 108 (t50 0)) 109 q63.1) 110 (t50 2)) 111 v64) 112 (t50 3)) 113 q65.1,q65.2.1,q65.2.2⟩))
 ((Zr .plain .eql (t50 1) (.string ⟨#[108,101,116]⟩)).bind fun v66 =>
 let t68:Tm:=put (put (put t50 115 (t50 1)) 116 v66) 117 v66
 (gsel v66 true
 ((Zr .plain .geq (t68 8) (.int .i64 4)).bind fun v69 =>
 some (put (put t68 118 (t68 8)) 119 v69,q45.2.1,q45.2.2+7))
 (some (put (put t68 118 (.tuple #[])) 119 (.tuple #[]),q45.2.1,q45.2.2+7))
 ).bind fun (q67:R3) =>
 (Zw (q67.1 117) (q67.1 119) (.bool false)).bind fun v70 =>
 let t72:Tm:=put (put q67.1 120 v70) 114 v70
 (csel v70
 ((sliceV 1 (t72 2) (some (.int .i64 1)) (some (.int .i64 2))).bind fun v73 =>
 (C 97 [t72 0,v73] q67.2.1 (q67.2.2+5)).bind fun q74 =>
 (sliceV 1 (t72 2) (some (.int .i64 3)) none).bind fun v75 =>
 (C 134 [t72 0,q74.1,v75,t72 3] q74.2.1 (q74.2.2+6)).bind fun q76 =>
 (idxA 1 (t72 2) (.int .i64 2)).bind fun v77 =>
 (ld false 1 v77 q76.2.1).bind fun v78 =>
 (C 124 [t72 0,v78,t72 3] q76.2.1 (q76.2.2+6)).bind fun q79 =>
 (bld [.int .i64 0,.int .i64 0,.int .i64 0,.string ⟨#[]⟩] [(0,1,.int .i64 7),(2,1,.int .i64 1)]).bind fun v80 =>
 (C 117 [t72 0,v80] q79.2.1 (q79.2.2+3)).bind fun q81 =>
 some ⟨.normal,put (put (put (put (put (put (put (put (put (put (put (put (put (put (put (put (put (put (put (put t72 121 (t72 0)) 122 (t72 2)) 123 v73) 124 q74.1) 14 q74.1) 125 (t72 0)) 126 q74.1) 127 (t72 2)) 128 v75) 129 (t72 3)) 130 q76.1) 131 (t72 0)) 132 (t72 2)) 133 v77) 134 v78) 135 (t72 3)) 136 q79.1) 137 (t72 0)) 138 v80) 139 q81.1,q81.2.1,q81.2.2⟩)
 ((Ye (t72 0)).bind fun v82 =>
 (Zo 3 v82).bind fun v83 =>
 (st false 1 v83 (.int .i64 1) q67.2.1).bind fun H84 =>
 some ⟨.normal,put (put (put t72 17 (t72 0)) 18 v82) 19 v83,H84,q67.2.2+4⟩)
 ).bind fun (o71:Out) =>
 some ⟨.normal,o71.t,o71.H,o71.n⟩)
 ).bind fun (o49:Out) =>
 some o49)
 ).bind fun (o40:Out) =>
 some o40)
 ).bind fun (o18:Out) =>
 some o18)
 ).bind fun (o7:Out) =>
 let o85:=outOf 0 o7
 finE o85.e
 (some (.tuple ⟨[]⟩,o85.H,o85.n))
theorem s130 (C:Zp) (L:Zs→Zs) (t:Tm) (H:Hp) (n:Nat):bodyK Try.prog C L Try.f130 t H n=S130 C L t H n:=by kernel_rfl
theorem c130 (args:List Value) (H:Hp) (n:Nat):Call Try.prog 130 args H n=S130 (Call Try.prog) Yf (Yg args) H n:=(Zu Try.func130 args H n).trans (s130 ..)
noncomputable def S133 (C:Zp) (L:Zs→Zs) (t:Tm) (H:Hp) (n:Nat):Option (Value × Hp × Nat) :=
 (Ye (t 0)).bind fun v1 =>
 (Zo 3 v1).bind fun v2 =>
 (ld false 1 v2 H).bind fun v3 =>
 (Zr .plain .eql v3 (.int .i64 0)).bind fun v4 =>
 let t6:Tm:=put (put (put (put (put t 4 (t 0)) 5 v1) 6 v2) 7 v3) 8 v4
 (csel v4
 ((Ye (t6 0)).bind fun v7 =>
 (Zo 1 v7).bind fun v8 =>
 (ld false 1 v8 H).bind fun v9 =>
 (Ye (t6 0)).bind fun v10 =>
 (Zo 1 v10).bind fun v11 =>
 (ld false 1 v11 H).bind fun v12 =>
 (lenV false v12).bind fun v13 =>
 (idxA 4 v9 (t6 1)).bind fun v14 =>
 (Zo 1 v14).bind fun v15 =>
 (st false 1 v15 v13 H).bind fun H16 =>
 some ⟨.normal,put (put (put (put (put (put (put (put (put (put (put (put t6 9 (t6 0)) 10 v7) 11 v8) 12 v9) 13 (t6 1)) 14 (t6 0)) 15 v10) 16 v11) 17 v12) 18 v13) 19 v14) 20 v15,H16,n+18⟩)
 (some ⟨.normal,t6,H,n+5⟩)
 ).bind fun (o5:Out) =>
 some (.tuple ⟨[]⟩,o5.H,o5.n)
theorem s133 (C:Zp) (L:Zs→Zs) (t:Tm) (H:Hp) (n:Nat):bodyK Try.prog C L Try.f133 t H n=S133 C L t H n:=by kernel_rfl
theorem c133 (args:List Value) (H:Hp) (n:Nat):Call Try.prog 133 args H n=S133 (Call Try.prog) Yf (Yg args) H n:=(Zu Try.func133 args H n).trans (s133 ..)
noncomputable def S134 (C:Zp) (L:Zs→Zs) (t:Tm) (H:Hp) (n:Nat):Option (Value × Hp × Nat) :=
 (lenV false (t 1)).bind fun v1 =>
 (bld [.int .i64 0,.int .i64 0,.int .i64 0,.string ⟨#[]⟩] [(0,1,.int .i64 6),(2,1,v1)]).bind fun v2 =>
 (C 117 [t 0,v2] H (n+6)).bind fun q3 =>
 (bld [.int .i64 0,.int .i64 0,.int .i64 0,.string ⟨#[]⟩] [(0,1,.int .i64 5)]).bind fun v4 =>
 (C 117 [t 0,v4] q3.2.1 (q3.2.2+4)).bind fun q5 =>
 (C 133 [t 0,q3.1] q5.2.1 (q5.2.2+3)).bind fun q6 =>
 (bsl (q6.2.2+3) 1 1 [nilS] [(0,1,t 1)] q6.2.1).bind fun p7 =>
 (app (q6.2.2+5) 1 24 p7.1 (t 3) p7.2).bind fun p8 =>
 (C 116 [t 0,t 2,p8.1] p8.2 (q6.2.2+7)).bind fun q9 =>
 (bld [.int .i64 0,.int .i64 0,.int .i64 0,.string ⟨#[]⟩] [(0,1,.int .i64 8)]).bind fun v10 =>
 (C 117 [t 0,v10] q9.2.1 (q9.2.2+3)).bind fun q11 =>
 (C 133 [t 0,q5.1] q11.2.1 (q11.2.2+3)).bind fun q12 =>
 some (.tuple ⟨[]⟩,q12.2.1,q12.2.2)
theorem s134 (C:Zp) (L:Zs→Zs) (t:Tm) (H:Hp) (n:Nat):bodyK Try.prog C L Try.f134 t H n=S134 C L t H n:=by kernel_rfl
theorem c134 (args:List Value) (H:Hp) (n:Nat):Call Try.prog 134 args H n=S134 (Call Try.prog) Yf (Yg args) H n:=(Zu Try.func134 args H n).trans (s134 ..)
end Go.Proofs.Ytbgkimkbngocjaa.Ax
