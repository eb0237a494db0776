import Derived.Test.YtclfgabimjmebaaTabRf
import Derived.Test.YtclfgabimjmebaaS8
set_option linter.all false
set_option maxRecDepth 100000
set_option linter.unusedVariables false
open Go Go.Aes Go.Proofs
namespace T
noncomputable def z4 : List AV := [.bool false]
noncomputable def z5 : List AV := [.int .u8 0]
noncomputable def z9 : List AV := [.str []]
noncomputable def z24 : List AV := [.str [], .str [], .sl [] .nil]
noncomputable def z30 : List AV := [.int .i64 0, .str [], .sl [] .nil, .sl [] .nil]
noncomputable def z31 : List AV := [.int .i64 0, .str [], .sl [] .nil, .sl [] .nil, .int .i64 0, .str [], .sl [] .nil, .sl [] .nil, .int .i64 0, .str [], .sl [] .nil, .sl [] .nil, .int .i64 0, .str [], .sl [] .nil, .sl [] .nil, .int .i64 0, .str [], .sl [] .nil, .sl [] .nil]
noncomputable def z36 : List AV := [.int .i64 0, .str [], .str [], .str [], .sl [] .nil, .sl [] .nil, .sl [] .nil]
noncomputable def z38 : List AV := [.str [], .int .i64 0, .str [], .sl [] .nil, .sl [] .nil]
noncomputable def z40 : List AV := [.str [], .sl [] .nil]
noncomputable def z46 : List AV := [.sl [] .nil, .sl [] .nil]
noncomputable def z62 : List AV := [.str [], .str [], .sl [] .nil, .sl [] .nil, .sl [] .nil, .str [], .int .i64 0, .str [], .sl [] .nil, .sl [] .nil, .sl [] .nil, .map none, .map none]
noncomputable def z68 : List AV := [.bool false, .str [], .sl [] .nil, .sl [] .nil, .sl [] .nil]
noncomputable def z74 : List AV := [.sl [] .nil, .int .i64 0, .int .i64 0, .int .i64 0, .bool false]
noncomputable def z82 : List AV := [.int .i64 0, .str [], .sl [] .nil, .sl [] .nil, .sl [] .nil]
noncomputable def z85 : List AV := [.int .i64 0, .str [], .int .i64 0]
noncomputable def z90 : List AV := [.str [], .str [], .sl [] .nil, .sl [] .nil]
noncomputable def z122 : List AV := [.str [], .str []]
noncomputable def z124 : List AV := [.str [], .sl [] .nil, .str [], .str [], .int .i64 0]
noncomputable def z128 : List AV := [.str [], .str [], .str [], .int .i64 0, .str [], .sl [] .nil, .sl [] .nil]
noncomputable def z140 : List AV := [.str [], .str [], .str [], .int .i64 0, .str [], .sl [] .nil, .sl [] .nil]
noncomputable def z152 : List AV := [.int .i64 0, .int .i64 0, .int .i64 0, .int .i64 0, .int .i64 0]
section
variable {R : Type} [Mon R]
/- gosem.cut.init -/
noncomputable def r2_0 (C : CallF) (k : KT R) : KT R := fun fr H => opn 0 fr (
(qRes (C 1 [] H) fun v0 H =>
k [] H : R))
noncomputable def c2 (C : CallF) (l0 : List AV) (H : AH) (k : AV → AH → R) : R := opn 0 l0 ((qFn (fun kr => (r2_0 C kr))
(fun fr H => k (.tup []) H) [] H : R))
/- refectory/refectorylaw17.CollectSkips -/
noncomputable def r3_14 (C : CallF) (k : KT R) : KT R := fun fr H => opn 14 fr (fun s0 s1 s4 s5 s6 s7 s8 s9 s10 s11 s12 s26 s39 s86 => 
(qLenL s12 fun v94 =>
qEql X 3 v94 (.int .i64 2) fun v95 =>
qG v95 true (fun k => k s12 H) H fun v97 H =>
qG v95 true (fun k => qIa 2 v97 (.int .i64 0) fun v => k v H) H fun v98 H =>
qG v95 true (fun k => qFa 0 v98 fun v => k v H) H fun v99 H =>
qG v95 true (fun k => qLd v99 H fun v => k v H) H fun v100 H =>
qG v95 true (fun k => qEql X 9 v100 (.str [97]) fun v => k v H) H fun v101 H =>
qPick v95 v101 (.bool false) fun v102 =>
qG v102 true (fun k => k s12 H) H fun v104 H =>
qG v102 true (fun k => qIa 2 v104 (.int .i64 1) fun v => k v H) H fun v105 H =>
qG v102 true (fun k => qFa 0 v105 fun v => k v H) H fun v106 H =>
qG v102 true (fun k => qLd v106 H fun v => k v H) H fun v107 H =>
qG v102 true (fun k => qEql X 9 v107 (.str [101]) fun v => k v H) H fun v108 H =>
qPick v102 v108 (.bool false) fun v109 =>
qG v109 true (fun k => qRes (C 8 [] H) k) H fun v111 H =>
qPick v109 v111 (.bool false) fun v112 =>
k [s0, s1, v112, s5, s6, s7, s8, s9, s10, s11, s12, s26, s39, s86] H : R))
noncomputable def r3_13 (C : CallF) (k : KT R) : KT R := fun fr H => opn 14 fr (fun s0 s1 s4 s5 s6 s7 s8 s9 s10 s11 s12 s26 s39 s86 => 
(qLenL s12 fun v88 =>
qEql X 3 v88 (.int .i64 0) fun v89 =>
qG v89 true (fun k => qRes (C 8 [] H) k) H fun v91 H =>
qPick v89 v91 (.bool false) fun v92 =>
k [s0, s1, v92, s5, s6, s7, s8, s9, s10, s11, s12, s26, s39, s86] H : R))
noncomputable def r3_12 (k : KT R) : KT R := fun fr H => opn 14 fr (fun s0 s1 s4 s5 s6 s7 s8 s9 s10 s11 s12 s26 s39 s86 => 
(qNot s11 fun v86 =>
k [s0, s1, s4, s5, s6, s7, s8, s9, s10, s11, s12, s26, s39, v86] H : R))
noncomputable def r3_11 (C : CallF) (k : KT R) : KT R := fun fr H => opn 14 fr (fun s0 s1 s4 s5 s6 s7 s8 s9 s10 s11 s12 s26 s39 s86 => 
(qLdA 3 s5 H fun v74 =>
qBld z46 [] fun v75 =>
qLdA 7 s9 H fun v76 =>
qFa 5 s9 fun v77 =>
qLd v77 H fun v78 =>
qBld z36 [(0, 1, (.int .i64 1)), (2, 1, (.str [101]))] fun v79 =>
qRows z36 1 [(0, v79)] fun v80 =>
qBld z36 [(0, 1, (.int .i64 3)), (5, 1, v78), (6, 1, v80)] fun v81 =>
qRows z36 2 [(0, v76), (1, v81)] fun v82 =>
qLdA 4 s10 H fun v83 =>
qRes (C 7 [v74, v75, (.str [81,117,101,114,121]), v82, v83] H) fun v84 H =>
k [s0, s1, s4, s5, s6, s7, s8, s9, s10, s11, v84, s26, s39, s86] H : R))
noncomputable def r3_10 (k : KT R) : KT R := fun fr H => opn 14 fr (fun s0 s1 s4 s5 s6 s7 s8 s9 s10 s11 s12 s26 s39 s86 => 
(qEql X 3 s6 (.int .i64 1) fun v59 =>
qG v59 false (fun k => k s6 H) H fun v61 H =>
qG v59 false (fun k => qEql X 3 v61 (.int .i64 3) fun v => k v H) H fun v62 H =>
qPick v59 (.bool true) v62 fun v63 =>
qNot v63 fun v64 =>
qG v64 true (fun k => k s7 H) H fun v66 H =>
qG v64 true (fun k => qEql X 3 v66 (.int .i64 2) fun v => k v H) H fun v67 H =>
qG v64 true (fun k => k v67 H) H fun v68 H =>
qG v68 false (fun k => k s7 H) H fun v69 H =>
qG v68 false (fun k => qEql X 3 v69 (.int .i64 4) fun v => k v H) H fun v70 H =>
qG v64 true (fun k => qPick v68 (.bool true) v70 fun v => k v H) H fun v71 H =>
qG v64 true (fun k => qNot v71 fun v => k v H) H fun v72 H =>
qPick v64 v72 (.bool false) fun v73 =>
k [s0, s1, s4, s5, s6, s7, s8, s9, s10, v73, s12, s26, s39, s86] H : R))
noncomputable def r3_9 (k : KT R) : KT R := fun fr H => opn 14 fr (fun s0 s1 s4 s5 s6 s7 s8 s9 s10 s11 s12 s26 s39 s86 => 
(qRows z9 2 [(0, (.str [121,101,115])), (1, (.str [110,111]))] fun v51 =>
qIaA 5 4 s8 (.int .i64 1) fun v52 =>
qLdA 4 v52 H fun v53 =>
qIaA 5 4 s8 (.int .i64 2) fun v54 =>
qLdA 4 v54 H fun v55 =>
qRows z30 2 [(0, v53), (1, v55)] fun v56 =>
qBld z30 [(0, 1, (.int .i64 8)), (2, 1, v51), (3, 1, v56)] fun v57 =>
qNew (.cells z30) .ptr H fun v10 H =>
qSt 4 v10 v57 H fun _ H =>
k [s0, s1, s4, s5, s6, s7, s8, s9, v10, s11, s12, s26, s39, s86] H : R))
noncomputable def r3_8 (k : KT R) : KT R := fun fr H => opn 14 fr (fun s0 s1 s4 s5 s6 s7 s8 s9 s10 s11 s12 s26 s39 s86 => 
(qFa 5 s9 fun v40 =>
qLd v40 H fun v41 =>
qIaA 5 4 s8 s7 fun v43 =>
qLdA 4 v43 H fun v44 =>
qBld z38 [(0, 1, (.str [105,102])), (1, 4, v44)] fun v45 =>
qRows z38 1 [(0, v45)] fun v46 =>
qBld z40 [(0, 1, (.str [105,110,99,108,117,100,101])), (1, 1, v46)] fun v47 =>
qRows z40 1 [(0, v47)] fun v48 =>
qApp 2 40 v41 v48 false none H fun v49 H =>
qFa 5 s9 fun v50 =>
qSt 1 v50 v49 H fun _ H =>
k [s0, s1, s4, s5, s6, s7, s8, s9, s10, s11, s12, s26, s39, s86] H : R))
noncomputable def r3_7 (k : KT R) : KT R := fun fr H => opn 14 fr (fun s0 s1 s4 s5 s6 s7 s8 s9 s10 s11 s12 s26 s39 s86 => 
(qGtr X 3 s7 (.int .i64 0) fun v39 =>
k [s0, s1, s4, s5, s6, s7, s8, s9, s10, s11, s12, s26, v39, s86] H : R))
noncomputable def r3_6 (k : KT R) : KT R := fun fr H => opn 14 fr (fun s0 s1 s4 s5 s6 s7 s8 s9 s10 s11 s12 s26 s39 s86 => 
(qFa 5 s9 fun v27 =>
qLd v27 H fun v28 =>
qIaA 5 4 s8 s6 fun v30 =>
qLdA 4 v30 H fun v31 =>
qBld z38 [(0, 1, (.str [105,102])), (1, 4, v31)] fun v32 =>
qRows z38 1 [(0, v32)] fun v33 =>
qBld z40 [(0, 1, (.str [115,107,105,112])), (1, 1, v33)] fun v34 =>
qRows z40 1 [(0, v34)] fun v35 =>
qApp 2 40 v28 v35 false none H fun v36 H =>
qFa 5 s9 fun v37 =>
qSt 1 v37 v36 H fun _ H =>
k [s0, s1, s4, s5, s6, s7, s8, s9, s10, s11, s12, s26, s39, s86] H : R))
noncomputable def r3_5 (k : KT R) : KT R := fun fr H => opn 14 fr (fun s0 s1 s4 s5 s6 s7 s8 s9 s10 s11 s12 s26 s39 s86 => 
(qGtr X 3 s6 (.int .i64 0) fun v26 =>
k [s0, s1, s4, s5, s6, s7, s8, s9, s10, s11, s12, v26, s39, s86] H : R))
noncomputable def r3_4 (k : KT R) : KT R := fun fr H => opn 14 fr (fun s0 s1 s4 s5 s6 s7 s8 s9 s10 s11 s12 s26 s39 s86 => 
(qBld z36 [(0, 1, (.int .i64 1)), (2, 1, (.str [97]))] fun v24 =>
qNew (.cells z36) .ptr H fun v9 H =>
qSt 7 v9 v24 H fun _ H =>
k [s0, s1, s4, s5, s6, s7, s8, v9, s10, s11, s12, s26, s39, s86] H : R))
noncomputable def r3_3 (k : KT R) : KT R := fun fr H => opn 14 fr (fun s0 s1 s4 s5 s6 s7 s8 s9 s10 s11 s12 s26 s39 s86 => 
(qBld z30 [] fun v18 =>
qBld z30 [(0, 1, (.int .i64 2)), (1, 1, (.str [116,114,117,101]))] fun v19 =>
qBld z30 [(0, 1, (.int .i64 2)), (1, 1, (.str [102,97,108,115,101]))] fun v20 =>
qBld z30 [(0, 1, (.int .i64 9)), (1, 1, (.str [121,101,115]))] fun v21 =>
qBld z30 [(0, 1, (.int .i64 9)), (1, 1, (.str [110,111]))] fun v22 =>
qBld z31 [(0, 4, v18), (4, 4, v19), (8, 4, v20), (12, 4, v21), (16, 4, v22)] fun v23 =>
qNew (.cells z31) .ptr H fun v8 H =>
qSt 20 v8 v23 H fun _ H =>
k [s0, s1, s4, s5, s6, s7, v8, s9, s10, s11, s12, s26, s39, s86] H : R))
noncomputable def r3_2 (C : CallF) (k : KT R) : KT R := fun fr H => opn 14 fr (fun s0 s1 s4 s5 s6 s7 s8 s9 s10 s11 s12 s26 s39 s86 => 
(qRes (C 6 [s0, (.int .i64 5)] H) fun v15 H =>
qRes (C 6 [s1, (.int .i64 5)] H) fun v17 H =>
k [s0, s1, s4, s5, v15, v17, s8, s9, s10, s11, s12, s26, s39, s86] H : R))
noncomputable def r3_1 (C : CallF) (k : KT R) : KT R := fun fr H => opn 14 fr (fun s0 s1 s4 s5 s6 s7 s8 s9 s10 s11 s12 s26 s39 s86 => 
(qRes (C 5 [(.int .i64 1)] H) fun v13 H =>
qNew (.cells z24) .ptr H fun v5 H =>
qSt 3 v5 v13 H fun _ H =>
k [s0, s1, s4, v5, s6, s7, s8, s9, s10, s11, s12, s26, s39, s86] H : R))
noncomputable def r3_0 (k : KT R) : KT R := fun fr H => opn 14 fr (fun s0 s1 s4 s5 s6 s7 s8 s9 s10 s11 s12 s26 s39 s86 => 
(k [s0, s1, (.bool false), s5, s6, s7, s8, s9, s10, s11, s12, s26, s39, s86] H : R))
noncomputable def c3 (C : CallF) (l0 : List AV) (H : AH) (k : AV → AH → R) : R := opn 2 l0 (fun x0 x1 => (qFn (fun kr => (r3_0 (r3_1 C (r3_2 C (r3_3 (r3_4 (r3_5 (qCd (sel 11) (fun k3 => (r3_6 k3)) (fun k3 => k3) (r3_7 (qCd (sel 12) (fun k2 => (r3_8 k2)) (fun k2 => k2) (r3_9 (r3_10 (r3_11 C (r3_12 (qCd (sel 13) (fun _ => (r3_13 C kr)) (fun k1 => k1) (r3_14 C kr))))))))))))))))
(fun fr H => k (sel 2 fr) H) [x0, x1, Aes.undef, Aes.undef, Aes.undef, Aes.undef, Aes.undef, Aes.undef, Aes.undef, Aes.undef, Aes.undef, Aes.undef, Aes.undef, Aes.undef] H : R))
/- refectory/refectorylaw17.CollectOrder -/
noncomputable def r4_32 (C : CallF) (k : KT R) : KT R := fun fr H => opn 23 fr (fun s0 s2 s3 s4 s5 s6 s7 s8 s9 s10 s11 s12 s13 s23 s43 s44 s49 s54 s64 s68 s86 s90 s126 => 
(qRes (C 8 [] H) fun v127 H =>
k [s0, v127, s3, s4, s5, s6, s7, s8, s9, s10, s11, s12, s13, s23, s43, s44, s49, s54, s64, s68, s86, s90, s126] H : R))
noncomputable def r4_29 (k : KT R) : KT R := fun fr H => opn 23 fr (fun s0 s2 s3 s4 s5 s6 s7 s8 s9 s10 s11 s12 s13 s23 s43 s44 s49 s54 s64 s68 s86 s90 s126 => 
(qAdd X 3 s13 (.int .i64 1) fun v92 =>
k [s0, s2, s3, s4, s5, s6, s7, s8, s9, s10, s11, s12, v92, s23, s43, s44, s49, s54, s64, s68, s86, s90, s126] H : R))
noncomputable def r4_31 (k : KT R) : KT R := fun fr H => opn 23 fr (fun s0 s2 s3 s4 s5 s6 s7 s8 s9 s10 s11 s12 s13 s23 s43 s44 s49 s54 s64 s68 s86 s90 s126 => 
(k [s0, (.bool false), s3, s4, s5, s6, s7, s8, s9, s10, s11, s12, s13, s23, s43, s44, s49, s54, s64, s68, s86, s90, s126] H : R))
noncomputable def r4_30 (C : CallF) (k : KT R) : KT R := fun fr H => opn 23 fr (fun s0 s2 s3 s4 s5 s6 s7 s8 s9 s10 s11 s12 s13 s23 s43 s44 s49 s54 s64 s68 s86 s90 s126 => 
(qIa 2 s12 s13 fun v95 =>
qFa 0 v95 fun v96 =>
qLd v96 H fun v97 =>
qIa 1 s5 s13 fun v100 =>
qLd v100 H fun v101 =>
qNeq X 9 v97 v101 fun v102 =>
qG v102 false (fun k => k s12 H) H fun v104 H =>
qG v102 false (fun k => k s13 H) H fun v105 H =>
qG v102 false (fun k => qIa 2 v104 v105 fun v => k v H) H fun v106 H =>
qG v102 false (fun k => qFa 1 v106 fun v => k v H) H fun v107 H =>
qG v102 false (fun k => qLd v107 H fun v => k v H) H fun v108 H =>
qG v102 false (fun k => qLenL v108 fun v => k v H) H fun v109 H =>
qG v102 false (fun k => k s6 H) H fun v110 H =>
qG v102 false (fun k => k s5 H) H fun v111 H =>
qG v102 false (fun k => k s13 H) H fun v112 H =>
qG v102 false (fun k => qIa 1 v111 v112 fun v => k v H) H fun v113 H =>
qG v102 false (fun k => qLd v113 H fun v => k v H) H fun v114 H =>
qG v102 false (fun k => qO (lookup X 52 v110 v114 false H) fun v => k v H) H fun v115 H =>
qG v102 false (fun k => qNeq X 3 v109 v115 fun v => k v H) H fun v116 H =>
qPick v102 (.bool true) v116 fun v117 =>
qG v117 false (fun k => k s12 H) H fun v119 H =>
qG v117 false (fun k => k s13 H) H fun v120 H =>
qG v117 false (fun k => qIa 2 v119 v120 fun v => k v H) H fun v121 H =>
qG v117 false (fun k => qLdA 2 v121 H fun v => k v H) H fun v122 H =>
qG v117 false (fun k => qRes (C 10 [v122] H) k) H fun v123 H =>
qG v117 false (fun k => qLenL v123 fun v => k v H) H fun v124 H =>
qG v117 false (fun k => qNeq X 3 v124 (.int .i64 0) fun v => k v H) H fun v125 H =>
qPick v117 (.bool true) v125 fun v126 =>
k [s0, s2, s3, s4, s5, s6, s7, s8, s9, s10, s11, s12, s13, s23, s43, s44, s49, s54, s64, s68, s86, s90, v126] H : R))
noncomputable def r4_28 (k : KT R) : KT R := fun fr H => opn 23 fr (fun s0 s2 s3 s4 s5 s6 s7 s8 s9 s10 s11 s12 s13 s23 s43 s44 s49 s54 s64 s68 s86 s90 s126 => 
(qLenL s12 fun v89 =>
qLss X 3 s13 v89 fun v90 =>
k [s0, s2, s3, s4, s5, s6, s7, s8, s9, s10, s11, s12, s13, s23, s43, s44, s49, s54, s64, s68, s86, v90, s126] H : R))
noncomputable def l4_5 (C : CallF) (k1 : KT R) (kr : KT R) : KT R → KT R := fun k2 => (r4_28 (qCd (sel 21) (fun k5 => k5) (fun _ => k1) (qBl (fun k3 => (r4_30 C (qCd (sel 22) (fun _ => (r4_31 kr)) (fun k4 => k4) k3))) (r4_29 k2))))
noncomputable def r4_27 (k : KT R) : KT R := fun fr H => opn 23 fr (fun s0 s2 s3 s4 s5 s6 s7 s8 s9 s10 s11 s12 s13 s23 s43 s44 s49 s54 s64 s68 s86 s90 s126 => 
(k [s0, s2, s3, s4, s5, s6, s7, s8, s9, s10, s11, s12, (.int .i64 0), s23, s43, s44, s49, s54, s64, s68, s86, s90, s126] H : R))
noncomputable def r4_26 (k : KT R) : KT R := fun fr H => opn 23 fr (fun s0 s2 s3 s4 s5 s6 s7 s8 s9 s10 s11 s12 s13 s23 s43 s44 s49 s54 s64 s68 s86 s90 s126 => 
(k [s0, (.bool false), s3, s4, s5, s6, s7, s8, s9, s10, s11, s12, s13, s23, s43, s44, s49, s54, s64, s68, s86, s90, s126] H : R))
noncomputable def r4_25 (k : KT R) : KT R := fun fr H => opn 23 fr (fun s0 s2 s3 s4 s5 s6 s7 s8 s9 s10 s11 s12 s13 s23 s43 s44 s49 s54 s64 s68 s86 s90 s126 => 
(qLenL s12 fun v83 =>
qLenL s5 fun v85 =>
qNeq X 3 v83 v85 fun v86 =>
k [s0, s2, s3, s4, s5, s6, s7, s8, s9, s10, s11, s12, s13, s23, s43, s44, s49, s54, s64, s68, v86, s90, s126] H : R))
noncomputable def r4_24 (C : CallF) (k : KT R) : KT R := fun fr H => opn 23 fr (fun s0 s2 s3 s4 s5 s6 s7 s8 s9 s10 s11 s12 s13 s23 s43 s44 s49 s54 s64 s68 s86 s90 s126 => 
(qLdA 3 s3 H fun v77 =>
qBld z46 [] fun v78 =>
qBld z30 [(0, 1, (.int .i64 8))] fun v80 =>
qRes (C 7 [v77, v78, (.str [81,117,101,114,121]), s4, v80] H) fun v81 H =>
k [s0, s2, s3, s4, s5, s6, s7, s8, s9, s10, s11, v81, s13, s23, s43, s44, s49, s54, s64, s68, s86, s90, s126] H : R))
noncomputable def r4_7 (k : KT R) : KT R := fun fr H => opn 23 fr (fun s0 s2 s3 s4 s5 s6 s7 s8 s9 s10 s11 s12 s13 s23 s43 s44 s49 s54 s64 s68 s86 s90 s126 => 
(qAdd X 3 s7 (.int .i64 1) fun v25 =>
k [s0, s2, s3, s4, s5, s6, v25, s8, s9, s10, s11, s12, s13, s23, s43, s44, s49, s54, s64, s68, s86, s90, s126] H : R))
noncomputable def r4_23 (k : KT R) : KT R := fun fr H => opn 23 fr (fun s0 s2 s3 s4 s5 s6 s7 s8 s9 s10 s11 s12 s13 s23 s43 s44 s49 s54 s64 s68 s86 s90 s126 => 
(qO (lookup X 52 s6 s9 false H) fun v75 =>
qAdd X 3 v75 (.int .i64 1) fun v76 =>
qMset X 52 s6 s9 v76 H fun _ H =>
k [s0, s2, s3, s4, s5, s6, s7, s8, s9, s10, s11, s12, s13, s23, s43, s44, s49, s54, s64, s68, s86, s90, s126] H : R))
noncomputable def r4_22 (k : KT R) : KT R := fun fr H => opn 23 fr (fun s0 s2 s3 s4 s5 s6 s7 s8 s9 s10 s11 s12 s13 s23 s43 s44 s49 s54 s64 s68 s86 s90 s126 => 
(qRows z9 1 [(0, s9)] fun v71 =>
qApp 1 16 s5 v71 false none H fun v72 H =>
k [s0, s2, s3, s4, v72, s6, s7, s8, s9, s10, s11, s12, s13, s23, s43, s44, s49, s54, s64, s68, s86, s90, s126] H : R))
noncomputable def r4_21 (k : KT R) : KT R := fun fr H => opn 23 fr (fun s0 s2 s3 s4 s5 s6 s7 s8 s9 s10 s11 s12 s13 s23 s43 s44 s49 s54 s64 s68 s86 s90 s126 => 
(qO (lookup X 52 s6 s9 false H) fun v67 =>
qEql X 3 v67 (.int .i64 0) fun v68 =>
k [s0, s2, s3, s4, s5, s6, s7, s8, s9, s10, s11, s12, s13, s23, s43, s44, s49, s54, s64, v68, s86, s90, s126] H : R))
noncomputable def r4_20 (k : KT R) : KT R := fun fr H => opn 23 fr (fun s0 s2 s3 s4 s5 s6 s7 s8 s9 s10 s11 s12 s13 s23 s43 s44 s49 s54 s64 s68 s86 s90 s126 => 
(qNot s11 fun v64 =>
k [s0, s2, s3, s4, s5, s6, s7, s8, s9, s10, s11, s12, s13, s23, s43, s44, s49, s54, v64, s68, s86, s90, s126] H : R))
noncomputable def r4_19 (k : KT R) : KT R := fun fr H => opn 23 fr (fun s0 s2 s3 s4 s5 s6 s7 s8 s9 s10 s11 s12 s13 s23 s43 s44 s49 s54 s64 s68 s86 s90 s126 => 
(qLdA 7 s10 H fun v60 =>
qRows z36 1 [(0, v60)] fun v61 =>
qApp 7 128 s4 v61 false none H fun v62 H =>
k [s0, s2, s3, v62, s5, s6, s7, s8, s9, s10, s11, s12, s13, s23, s43, s44, s49, s54, s64, s68, s86, s90, s126] H : R))
noncomputable def r4_14 (k : KT R) : KT R := fun fr H => opn 23 fr (fun s0 s2 s3 s4 s5 s6 s7 s8 s9 s10 s11 s12 s13 s23 s43 s44 s49 s54 s64 s68 s86 s90 s126 => 
(qLdA 7 s10 H fun v46 =>
qRows z36 1 [(0, v46)] fun v47 =>
qBld z36 [(0, 1, (.int .i64 3)), (6, 1, v47)] fun v48 =>
qSt 7 s10 v48 H fun _ H =>
k [s0, s2, s3, s4, s5, s6, s7, s8, s9, s10, s11, s12, s13, s23, s43, s44, s49, s54, s64, s68, s86, s90, s126] H : R))
noncomputable def r4_16 (k : KT R) : KT R := fun fr H => opn 23 fr (fun s0 s2 s3 s4 s5 s6 s7 s8 s9 s10 s11 s12 s13 s23 s43 s44 s49 s54 s64 s68 s86 s90 s126 => 
(qLdA 7 s10 H fun v51 =>
qRows z36 1 [(0, v51)] fun v52 =>
qBld z36 [(0, 1, (.int .i64 3)), (3, 1, (.str [81,117,101,114,121])), (6, 1, v52)] fun v53 =>
qSt 7 s10 v53 H fun _ H =>
k [s0, s2, s3, s4, s5, s6, s7, s8, s9, s10, s11, s12, s13, s23, s43, s44, s49, s54, s64, s68, s86, s90, s126] H : R))
noncomputable def r4_18 (k : KT R) : KT R := fun fr H => opn 23 fr (fun s0 s2 s3 s4 s5 s6 s7 s8 s9 s10 s11 s12 s13 s23 s43 s44 s49 s54 s64 s68 s86 s90 s126 => 
(qLdA 7 s10 H fun v56 =>
qRows z36 1 [(0, v56)] fun v57 =>
qBld z36 [(0, 1, (.int .i64 3)), (3, 1, (.str [65])), (6, 1, v57)] fun v58 =>
qSt 7 s10 v58 H fun _ H =>
k [s0, s2, s3, s4, s5, s6, s7, s8, s9, s10, s11, s12, s13, s23, s43, s44, s49, s54, s64, s68, s86, s90, s126] H : R))
noncomputable def r4_17 (k : KT R) : KT R := fun fr H => opn 23 fr (fun s0 s2 s3 s4 s5 s6 s7 s8 s9 s10 s11 s12 s13 s23 s43 s44 s49 s54 s64 s68 s86 s90 s126 => 
(qEql X 3 s43 (.int .i64 3) fun v55 =>
k [s0, s2, s3, s4, s5, s6, s7, s8, s9, s10, s11, s12, s13, s23, s43, s44, s49, v55, s64, s68, s86, s90, s126] H : R))
noncomputable def r4_15 (k : KT R) : KT R := fun fr H => opn 23 fr (fun s0 s2 s3 s4 s5 s6 s7 s8 s9 s10 s11 s12 s13 s23 s43 s44 s49 s54 s64 s68 s86 s90 s126 => 
(qEql X 3 s43 (.int .i64 2) fun v50 =>
k [s0, s2, s3, s4, s5, s6, s7, s8, s9, s10, s11, s12, s13, s23, s43, s44, v50, s54, s64, s68, s86, s90, s126] H : R))
noncomputable def r4_13 (k : KT R) : KT R := fun fr H => opn 23 fr (fun s0 s2 s3 s4 s5 s6 s7 s8 s9 s10 s11 s12 s13 s23 s43 s44 s49 s54 s64 s68 s86 s90 s126 => 
(qEql X 3 s43 (.int .i64 1) fun v45 =>
k [s0, s2, s3, s4, s5, s6, s7, s8, s9, s10, s11, s12, s13, s23, s43, v45, s49, s54, s64, s68, s86, s90, s126] H : R))
noncomputable def r4_12 (k : KT R) : KT R := fun fr H => opn 23 fr (fun s0 s2 s3 s4 s5 s6 s7 s8 s9 s10 s11 s12 s13 s23 s43 s44 s49 s54 s64 s68 s86 s90 s126 => 
(qQuo X 3 s8 (.int .i64 6) fun v42 =>
qRem X 3 v42 (.int .i64 4) fun v43 =>
k [s0, s2, s3, s4, s5, s6, s7, s8, s9, s10, s11, s12, s13, s23, v43, s44, s49, s54, s64, s68, s86, s90, s126] H : R))
noncomputable def r4_11 (k : KT R) : KT R := fun fr H => opn 23 fr (fun s0 s2 s3 s4 s5 s6 s7 s8 s9 s10 s11 s12 s13 s23 s43 s44 s49 s54 s64 s68 s86 s90 s126 => 
(qQuo X 3 s8 (.int .i64 6) fun v38 =>
qRem X 3 v38 (.int .i64 4) fun v39 =>
qEql X 3 v39 (.int .i64 3) fun v40 =>
k [s0, s2, s3, s4, s5, s6, s7, s8, s9, s10, v40, s12, s13, s23, s43, s44, s49, s54, s64, s68, s86, s90, s126] H : R))
noncomputable def r4_10 (k : KT R) : KT R := fun fr H => opn 23 fr (fun s0 s2 s3 s4 s5 s6 s7 s8 s9 s10 s11 s12 s13 s23 s43 s44 s49 s54 s64 s68 s86 s90 s126 => 
(qBld z36 [(0, 1, (.int .i64 1)), (1, 1, s9), (2, 1, (.str [97]))] fun v36 =>
qNew (.cells z36) .ptr H fun v10 H =>
qSt 7 v10 v36 H fun _ H =>
k [s0, s2, s3, s4, s5, s6, s7, s8, s9, v10, s11, s12, s13, s23, s43, s44, s49, s54, s64, s68, s86, s90, s126] H : R))
noncomputable def r4_9 (C : CallF) (k : KT R) : KT R := fun fr H => opn 23 fr (fun s0 s2 s3 s4 s5 s6 s7 s8 s9 s10 s11 s12 s13 s23 s43 s44 s49 s54 s64 s68 s86 s90 s126 => 
(qRem X 3 s8 (.int .i64 6) fun v32 =>
qRes (C 9 [v32] H) fun v33 H =>
qAdd X 9 (.str [110]) v33 fun v34 =>
k [s0, s2, s3, s4, s5, s6, s7, s8, v34, s10, s11, s12, s13, s23, s43, s44, s49, s54, s64, s68, s86, s90, s126] H : R))
noncomputable def r4_8 (C : CallF) (k : KT R) : KT R := fun fr H => opn 23 fr (fun s0 s2 s3 s4 s5 s6 s7 s8 s9 s10 s11 s12 s13 s23 s43 s44 s49 s54 s64 s68 s86 s90 s126 => 
(qIa 1 s0 s7 fun v28 =>
qLd v28 H fun v29 =>
qRes (C 6 [v29, (.int .i64 1048576)] H) fun v30 H =>
k [s0, s2, s3, s4, s5, s6, s7, v30, s9, s10, s11, s12, s13, s23, s43, s44, s49, s54, s64, s68, s86, s90, s126] H : R))
noncomputable def r4_6 (k : KT R) : KT R := fun fr H => opn 23 fr (fun s0 s2 s3 s4 s5 s6 s7 s8 s9 s10 s11 s12 s13 s23 s43 s44 s49 s54 s64 s68 s86 s90 s126 => 
(qLenL s0 fun v18 =>
qLss X 3 s7 v18 fun v19 =>
qG v19 true (fun k => k s7 H) H fun v21 H =>
qG v19 true (fun k => qLss X 3 v21 (.int .i64 40) fun v => k v H) H fun v22 H =>
qPick v19 v22 (.bool false) fun v23 =>
k [s0, s2, s3, s4, s5, s6, s7, s8, s9, s10, s11, s12, s13, v23, s43, s44, s49, s54, s64, s68, s86, s90, s126] H : R))
noncomputable def l4_16 (C : CallF) (k7 : KT R) : KT R → KT R := fun k8 => (r4_6 (qCd (sel 13) (fun k16 => k16) (fun _ => k7) (qBl (fun k9 => (r4_8 C (r4_9 C (r4_10 (r4_11 (r4_12 (qBl (fun k12 => (r4_13 (qCd (sel 15) (fun k13 => (r4_14 k13)) (fun k13 => (r4_15 (qCd (sel 16) (fun k14 => (r4_16 k14)) (fun k14 => (r4_17 (qCd (sel 17) (fun k15 => (r4_18 k15)) (fun k15 => k15) k14))) k13))) k12))) (r4_19 (r4_20 (qCd (sel 18) (fun k10 => (r4_21 (qCd (sel 19) (fun k11 => (r4_22 k11)) (fun k11 => k11) (r4_23 k10)))) (fun k10 => k10) k9)))))))))) (r4_7 k8))))
noncomputable def r4_5 (k : KT R) : KT R := fun fr H => opn 23 fr (fun s0 s2 s3 s4 s5 s6 s7 s8 s9 s10 s11 s12 s13 s23 s43 s44 s49 s54 s64 s68 s86 s90 s126 => 
(k [s0, s2, s3, s4, s5, s6, (.int .i64 0), s8, s9, s10, s11, s12, s13, s23, s43, s44, s49, s54, s64, s68, s86, s90, s126] H : R))
noncomputable def r4_4 (k : KT R) : KT R := fun fr H => opn 23 fr (fun s0 s2 s3 s4 s5 s6 s7 s8 s9 s10 s11 s12 s13 s23 s43 s44 s49 s54 s64 s68 s86 s90 s126 => 
(qNew (.map []) .map H fun v15 H =>
k [s0, s2, s3, s4, s5, v15, s7, s8, s9, s10, s11, s12, s13, s23, s43, s44, s49, s54, s64, s68, s86, s90, s126] H : R))
noncomputable def r4_3 (k : KT R) : KT R := fun fr H => opn 23 fr (fun s0 s2 s3 s4 s5 s6 s7 s8 s9 s10 s11 s12 s13 s23 s43 s44 s49 s54 s64 s68 s86 s90 s126 => 
(k [s0, s2, s3, s4, (.sl [] .nil), s6, s7, s8, s9, s10, s11, s12, s13, s23, s43, s44, s49, s54, s64, s68, s86, s90, s126] H : R))
noncomputable def r4_2 (k : KT R) : KT R := fun fr H => opn 23 fr (fun s0 s2 s3 s4 s5 s6 s7 s8 s9 s10 s11 s12 s13 s23 s43 s44 s49 s54 s64 s68 s86 s90 s126 => 
(k [s0, s2, s3, (.sl [] .nil), s5, s6, s7, s8, s9, s10, s11, s12, s13, s23, s43, s44, s49, s54, s64, s68, s86, s90, s126] H : R))
noncomputable def r4_1 (C : CallF) (k : KT R) : KT R := fun fr H => opn 23 fr (fun s0 s2 s3 s4 s5 s6 s7 s8 s9 s10 s11 s12 s13 s23 s43 s44 s49 s54 s64 s68 s86 s90 s126 => 
(qRes (C 5 [(.int .i64 1)] H) fun v14 H =>
qNew (.cells z24) .ptr H fun v3 H =>
qSt 3 v3 v14 H fun _ H =>
k [s0, s2, v3, s4, s5, s6, s7, s8, s9, s10, s11, s12, s13, s23, s43, s44, s49, s54, s64, s68, s86, s90, s126] H : R))
noncomputable def r4_0 (k : KT R) : KT R := fun fr H => opn 23 fr (fun s0 s2 s3 s4 s5 s6 s7 s8 s9 s10 s11 s12 s13 s23 s43 s44 s49 s54 s64 s68 s86 s90 s126 => 
(k [s0, (.bool false), s3, s4, s5, s6, s7, s8, s9, s10, s11, s12, s13, s23, s43, s44, s49, s54, s64, s68, s86, s90, s126] H : R))
noncomputable def c4 (C : CallF) (l0 : List AV) (H : AH) (k : AV → AH → R) : R := opn 1 l0 (fun x0 => (qFn (fun kr => (r4_0 (r4_1 C (r4_2 (r4_3 (r4_4 (r4_5 (qBl (fun k7 => (qLoop (l4_16 C k7))) (r4_24 C (r4_25 (qCd (sel 20) (fun _ => (r4_26 kr)) (fun k6 => k6) (r4_27 (qBl (fun k1 => (qLoop (l4_5 C k1 kr))) (r4_32 C kr))))))))))))))
(fun fr H => k (sel 1 fr) H) [x0, Aes.undef, Aes.undef, Aes.undef, Aes.undef, Aes.undef, Aes.undef, Aes.undef, Aes.undef, Aes.undef, Aes.undef, Aes.undef, Aes.undef, Aes.undef, Aes.undef, Aes.undef, Aes.undef, Aes.undef, Aes.undef, Aes.undef, Aes.undef, Aes.undef, Aes.undef] H : R))
/- refectory/refectorylaw00.Schema -/
noncomputable def r5_5 (k : KT R) : KT R := fun fr H => opn 5 fr (fun s0 s2 s3 s4 s9 => 
(qLdA 3 s4 H fun v16 =>
qSt 3 s2 v16 H fun _ H =>
k [s0, s2, s3, s4, s9] H : R))
noncomputable def r5_4 (C : CallF) (k : KT R) : KT R := fun fr H => opn 5 fr (fun s0 s2 s3 s4 s9 => 
(qRes (C 11 [s3] H) fun v12 H =>
qExt v12 0 fun v13 =>
qExt v12 1 fun v14 =>
qExt v12 2 fun v15 =>
qNew (.cells z24) .ptr H fun v4 H =>
qSt 3 v4 v13 H fun _ H =>
k [s0, s2, s3, v4, s9] H : R))
noncomputable def r5_3 (k : KT R) : KT R := fun fr H => opn 5 fr (fun s0 s2 s3 s4 s9 => 
(k [s0, s2, (.str [115,99,104,101,109,97,123,113,117,101,114,121,58,82,111,111,116,125,32,116,121,112,101,32,82,111,111,116,123,111,110,101,58,91,91,73,110,116,33,93,93,32,116,119,111,58,91,76,101,97,102,93,32,116,104,114,101,101,40,110,58,73,110,116,33,41,58,76,101,97,102,33,64,99,111,115,116,40,110,58,53,48,41,32,102,111,117,114,58,67,111,108,111,114,33,125,32,116,121,112,101,32,76,101,97,102,123,118,58,73,110,116,33,32,119,58,76,101,97,102,32,120,58,91,76,101,97,102,33,93,125,32,101,110,117,109,32,67,111,108,111,114,123,82,69,68,32,71,82,69,69,78,125]), s4, s9] H : R))
noncomputable def r5_2 (C : CallF) (k : KT R) : KT R := fun fr H => opn 5 fr (fun s0 s2 s3 s4 s9 => 
(qRes (C 6 [s0, (.int .i64 4)] H) fun v8 H =>
qEql X 3 v8 (.int .i64 0) fun v9 =>
k [s0, s2, s3, s4, v9] H : R))
noncomputable def r5_1 (k : KT R) : KT R := fun fr H => opn 5 fr (fun s0 s2 s3 s4 s9 => 
(k [s0, s2, (.str [116,121,112,101,32,81,117,101,114,121,123,97,58,73,110,116,32,98,40,120,58,73,110,116,61,49,32,121,58,91,83,116,114,105,110,103,33,93,41,58,83,116,114,105,110,103,32,99,58,78,111,100,101,32,100,58,91,78,111,100,101,33,93,33,32,101,58,75,105,110,100,32,102,58,84,104,105,110,103,32,103,58,91,84,104,105,110,103,93,32,104,40,105,110,58,73,110,41,58,70,108,111,97,116,33,64,99,111,115,116,40,110,58,53,41,32,105,58,73,68,32,107,40,97,110,121,58,65,110,121,41,58,65,110,121,32,115,101,108,102,58,81,117,101,114,121,33,125,32,105,110,116,101,114,102,97,99,101,32,78,111,100,101,123,105,100,58,73,68,33,32,110,97,109,101,58,83,116,114,105,110,103,32,110,101,120,116,58,78,111,100,101,125,32,116,121,112,101,32,65,32,105,109,112,108,101,109,101,110,116,115,32,78,111,100,101,123,105,100,58,73,68,33,32,110,97,109,101,58,83,116,114,105,110,103,32,110,101,120,116,58,78,111,100,101,32,97,58,73,110,116,64,99,111,115,116,40,110,58,51,41,32,107,105,100,115,58,91,65,93,125,32,116,121,112,101,32,66,32,105,109,112,108,101,109,101,110,116,115,32,78,111,100,101,123,105,100,58,73,68,33,32,110,97,109,101,58,83,116,114,105,110,103,32,110,101,120,116,58,66,32,98,40,122,58,66,111,111,108,101,97,110,33,41,58,66,111,111,108,101,97,110,125,32,117,110,105,111,110,32,84,104,105,110,103,61,65,124,66,32,101,110,117,109,32,75,105,110,100,123,88,32,89,32,90,125,32,105,110,112,117,116,32,73,110,123,112,58,73,110,116,33,32,113,58,91,73,110,116,93,32,114,58,73,110,32,115,58,75,105,110,100,61,88,125,32,115,99,97,108,97,114,32,65,110,121,32,116,121,112,101,32,77,117,116,97,116,105,111,110,123,115,101,116,40,118,58,73,110,116,33,41,58,65,32,97,100,100,40,118,58,91,73,110,116,33,93,41,58,73,110,116,32,98,117,109,112,58,66,125]), s4, s9] H : R))
noncomputable def r5_0 (k : KT R) : KT R := fun fr H => opn 5 fr (fun s0 s2 s3 s4 s9 => 
(qNew (.cells z24) .ptr H fun v2 H =>
k [s0, v2, s3, s4, s9] H : R))
noncomputable def c5 (C : CallF) (l0 : List AV) (H : AH) (k : AV → AH → R) : R := opn 1 l0 (fun x0 => (qFn (fun kr => (r5_0 (r5_1 (r5_2 C (qCd (sel 4) (fun k1 => (r5_3 k1)) (fun k1 => k1) (r5_4 C (r5_5 kr)))))))
(fun fr H => qPtr (sel 1 fr) (qLdA 3 (sel 1 fr) H fun w0 => k w0 H)) [x0, Aes.undef, Aes.undef, Aes.undef, Aes.undef] H : R))
/- refectory/refectorylaw00.Place -/
noncomputable def r6_4 (k : KT R) : KT R := fun fr H => opn 5 fr (fun s0 s1 s4 s5 s10 => 
(k [s0, s1, s5, s5, s10] H : R))
noncomputable def r6_3 (k : KT R) : KT R := fun fr H => opn 5 fr (fun s0 s1 s4 s5 s10 => 
(qAdd X 3 s5 s1 fun v13 =>
k [s0, s1, s4, v13, s10] H : R))
noncomputable def r6_2 (k : KT R) : KT R := fun fr H => opn 5 fr (fun s0 s1 s4 s5 s10 => 
(qLss X 3 s5 (.int .i64 0) fun v10 =>
k [s0, s1, s4, s5, v10] H : R))
noncomputable def r6_1 (k : KT R) : KT R := fun fr H => opn 5 fr (fun s0 s1 s4 s5 s10 => 
(qRem X 3 s0 s1 fun v8 =>
k [s0, s1, s4, v8, s10] H : R))
noncomputable def r6_0 (k : KT R) : KT R := fun fr H => opn 5 fr (fun s0 s1 s4 s5 s10 => 
(k [s0, s1, (.int .i64 0), s5, s10] H : R))
noncomputable def c6 (C : CallF) (l0 : List AV) (H : AH) (k : AV → AH → R) : R := opn 2 l0 (fun x0 x1 => (qFn (fun kr => (r6_0 (r6_1 (r6_2 (qCd (sel 4) (fun k1 => (r6_3 k1)) (fun k1 => k1) (r6_4 kr))))))
(fun fr H => k (sel 2 fr) H) [x0, x1, Aes.undef, Aes.undef, Aes.undef] H : R))
/- refectory/collect.Fields -/
noncomputable def r7_3 (k : KT R) : KT R := fun fr H => opn 10 fr (fun s0 s1 s2 s3 s4 s5 s6 s9 s10 s11 => 
(qNc s11 fun v24 =>
qFa 10 v24 fun v25 =>
qLd v25 H fun v26 =>
k [s0, s1, s2, s3, s4, s5, s6, s9, v26, s11] H : R))
noncomputable def r7_2 (C : CallF) (k : KT R) : KT R := fun fr H => opn 10 fr (fun s0 s1 s2 s3 s4 s5 s6 s9 s10 s11 => 
(qRes (C 12 [s11, s3] H) fun v22 H =>
k [s0, s1, s2, s3, s4, s5, s6, s9, s10, s11] H : R))
noncomputable def r7_1 (k : KT R) : KT R := fun fr H => opn 10 fr (fun s0 s1 s2 s3 s4 s5 s6 s9 s10 s11 => 
(qLdA 3 s5 H fun v12 =>
qLdA 2 s6 H fun v13 =>
qLdA 4 s9 H fun v15 =>
qNew (.map []) .map H fun v16 H =>
qNew (.map []) .map H fun v17 H =>
qBld z62 [(0, 3, v12), (3, 2, v13), (5, 1, s2), (6, 4, v15), (11, 1, v16), (12, 1, v17)] fun v18 =>
qBox v18 H fun v19 H =>
k [s0, s1, s2, s3, s4, s5, s6, s9, s10, v19] H : R))
noncomputable def r7_0 (k : KT R) : KT R := fun fr H => opn 10 fr (fun s0 s1 s2 s3 s4 s5 s6 s9 s10 s11 => 
(qBox s0 H fun v5 H =>
qBox s1 H fun v6 H =>
qBox s4 H fun v9 H =>
k [s0, s1, s2, s3, s4, v5, v6, v9, (.sl [] .nil), s11] H : R))
noncomputable def c7 (C : CallF) (l0 : List AV) (H : AH) (k : AV → AH → R) : R := opn 5 l0 (fun x0 x1 x2 x3 x4 => (qFn (fun kr => (r7_0 (r7_1 (r7_2 C (r7_3 kr)))))
(fun fr H => k (sel 8 fr) H) [x0, x1, x2, x3, x4, Aes.undef, Aes.undef, Aes.undef, Aes.undef, Aes.undef] H : R))
/- refectory/refectorylaw17.awake -/
noncomputable def r8_6 (C : CallF) (k : KT R) : KT R := fun fr H => opn 5 fr (fun s0 s1 s2 s5 s15 => 
(qLenL s5 fun v26 =>
qEql X 3 v26 (.int .i64 2) fun v27 =>
qG v27 true (fun k => k s5 H) H fun v29 H =>
qG v27 true (fun k => qIa 2 v29 (.int .i64 1) fun v => k v H) H fun v30 H =>
qG v27 true (fun k => qFa 0 v30 fun v => k v H) H fun v31 H =>
qG v27 true (fun k => qLd v31 H fun v => k v H) H fun v32 H =>
qG v27 true (fun k => qEql X 9 v32 (.str [99]) fun v => k v H) H fun v33 H =>
qPick v27 v33 (.bool false) fun v34 =>
qG v34 true (fun k => k s5 H) H fun v36 H =>
qG v34 true (fun k => qIa 2 v36 (.int .i64 1) fun v => k v H) H fun v37 H =>
qG v34 true (fun k => qFa 1 v37 fun v => k v H) H fun v38 H =>
qG v34 true (fun k => qLd v38 H fun v => k v H) H fun v39 H =>
qG v34 true (fun k => qLenL v39 fun v => k v H) H fun v40 H =>
qG v34 true (fun k => qEql X 3 v40 (.int .i64 2) fun v => k v H) H fun v41 H =>
qPick v34 v41 (.bool false) fun v42 =>
qG v42 true (fun k => k s5 H) H fun v44 H =>
qG v42 true (fun k => qIa 2 v44 (.int .i64 1) fun v => k v H) H fun v45 H =>
qG v42 true (fun k => qLdA 2 v45 H fun v => k v H) H fun v46 H =>
qG v42 true (fun k => qRes (C 10 [v46] H) k) H fun v47 H =>
qG v42 true (fun k => qLenL v47 fun v => k v H) H fun v48 H =>
qG v42 true (fun k => qEql X 3 v48 (.int .i64 2) fun v => k v H) H fun v49 H =>
qPick v42 v49 (.bool false) fun v50 =>
k [v50, s1, s2, s5, s15] H : R))
noncomputable def r8_5 (C : CallF) (k : KT R) : KT R := fun fr H => opn 5 fr (fun s0 s1 s2 s5 s15 => 
(qLdA 3 s1 H fun v16 =>
qLdA 2 s2 H fun v17 =>
qFa 0 s2 fun v18 =>
qLd v18 H fun v19 =>
qIa 5 v19 (.int .i64 0) fun v20 =>
qFa 4 v20 fun v21 =>
qLd v21 H fun v22 =>
qBld z30 [(0, 1, (.int .i64 8))] fun v23 =>
qRes (C 7 [v16, v17, (.str [81,117,101,114,121]), v22, v23] H) fun v24 H =>
k [s0, s1, s2, v24, s15] H : R))
noncomputable def r8_4 (k : KT R) : KT R := fun fr H => opn 5 fr (fun s0 s1 s2 s5 s15 => 
(k [(.bool false), s1, s2, s5, s15] H : R))
noncomputable def r8_3 (k : KT R) : KT R := fun fr H => opn 5 fr (fun s0 s1 s2 s5 s15 => 
(qFa 0 s2 fun v12 =>
qLd v12 H fun v13 =>
qLenL v13 fun v14 =>
qNeq X 3 v14 (.int .i64 1) fun v15 =>
k [s0, s1, s2, s5, v15] H : R))
noncomputable def r8_2 (C : CallF) (k : KT R) : KT R := fun fr H => opn 5 fr (fun s0 s1 s2 s5 s15 => 
(qRes (C 13 [(.str [123,97,32,99,123,105,100,125,32,97,32,99,123,110,97,109,101,125,125])] H) fun v8 H =>
qExt v8 0 fun v9 =>
qExt v8 1 fun v10 =>
qExt v8 2 fun v11 =>
qNew (.cells z46) .ptr H fun v2 H =>
qSt 2 v2 v9 H fun _ H =>
k [s0, s1, v2, s5, s15] H : R))
noncomputable def r8_1 (C : CallF) (k : KT R) : KT R := fun fr H => opn 5 fr (fun s0 s1 s2 s5 s15 => 
(qRes (C 5 [(.int .i64 1)] H) fun v6 H =>
qNew (.cells z24) .ptr H fun v1 H =>
qSt 3 v1 v6 H fun _ H =>
k [s0, v1, s2, s5, s15] H : R))
noncomputable def r8_0 (k : KT R) : KT R := fun fr H => opn 5 fr (fun s0 s1 s2 s5 s15 => 
(k [(.bool false), s1, s2, s5, s15] H : R))
noncomputable def c8 (C : CallF) (l0 : List AV) (H : AH) (k : AV → AH → R) : R := opn 0 l0 ((qFn (fun kr => (r8_0 (r8_1 C (r8_2 C (r8_3 (qCd (sel 4) (fun _ => (r8_4 kr)) (fun k1 => k1) (r8_5 C (r8_6 C kr))))))))
(fun fr H => k (sel 0 fr) H) [Aes.undef, Aes.undef, Aes.undef, Aes.undef, Aes.undef] H : R))
/- refectory/refectorylaw00.Digits -/
noncomputable def r9_1 (C : CallF) (k : KT R) : KT R := fun fr H => opn 2 fr (fun s0 s2 => 
(qRes (C 14 [s0] H) fun v4 H =>
k [s0, v4] H : R))
noncomputable def r9_0 (k : KT R) : KT R := fun fr H => opn 2 fr (fun s0 s2 => 
(k [s0, (.str [])] H : R))
noncomputable def c9 (C : CallF) (l0 : List AV) (H : AH) (k : AV → AH → R) : R := opn 1 l0 (fun x0 => (qFn (fun kr => (r9_0 (r9_1 C kr)))
(fun fr H => k (sel 1 fr) H) [x0, Aes.undef] H : R))
/- refectory/collect.Below -/
noncomputable def r10_7 (k : KT R) : KT R := fun fr H => opn 9 fr (fun s0 s1 s2 s3 s5 s7 s8 s9 s10 => 
(k [s0, s1, s3, s3, s5, s7, s8, s9, s10] H : R))
noncomputable def r10_6 (k : KT R) : KT R := fun fr H => opn 9 fr (fun s0 s1 s2 s3 s5 s7 s8 s9 s10 => 
(qAdd X 3 s9 (.int .i64 1) fun v17 =>
k [s0, s1, s2, s3, s5, s7, s8, v17, s10] H : R))
noncomputable def r10_5 (k : KT R) : KT R := fun fr H => opn 9 fr (fun s0 s1 s2 s3 s5 s7 s8 s9 s10 => 
(qFa 6 s5 fun v14 =>
qLd v14 H fun v15 =>
qApp 7 128 s3 v15 false none H fun v16 H =>
k [s0, s1, s2, v16, s5, s7, s8, s9, s10] H : R))
noncomputable def r10_4 (k : KT R) : KT R := fun fr H => opn 9 fr (fun s0 s1 s2 s3 s5 s7 s8 s9 s10 => 
(qIa 7 s7 s9 fun v11 =>
qLdA 7 v11 H fun v12 =>
qNew (.cells z36) .ptr H fun v5 H =>
qSt 7 v5 v12 H fun _ H =>
k [s0, s1, s2, s3, v5, s7, s8, s9, s10] H : R))
noncomputable def r10_3 (k : KT R) : KT R := fun fr H => opn 9 fr (fun s0 s1 s2 s3 s5 s7 s8 s9 s10 => 
(qLss X 3 s9 s8 fun v10 =>
k [s0, s1, s2, s3, s5, s7, s8, s9, v10] H : R))
noncomputable def l10_4 (k1 : KT R) : KT R → KT R := fun k2 => (r10_3 (qCd (sel 8) (fun k4 => k4) (fun _ => k1) (qBl (fun k3 => (r10_4 (r10_5 k3))) (r10_6 k2))))
noncomputable def r10_2 (k : KT R) : KT R := fun fr H => opn 9 fr (fun s0 s1 s2 s3 s5 s7 s8 s9 s10 => 
(qFa 1 s1 fun v6 =>
qLd v6 H fun v7 =>
qLenL v7 fun v8 =>
k [s0, s1, s2, s3, s5, v7, v8, (.int .i64 0), s10] H : R))
noncomputable def r10_1 (k : KT R) : KT R := fun fr H => opn 9 fr (fun s0 s1 s2 s3 s5 s7 s8 s9 s10 => 
(k [s0, s1, s2, (.sl [] .nil), s5, s7, s8, s9, s10] H : R))
noncomputable def r10_0 (k : KT R) : KT R := fun fr H => opn 9 fr (fun s0 s1 s2 s3 s5 s7 s8 s9 s10 => 
(qBox s0 H fun v1 H =>
k [s0, v1, (.sl [] .nil), s3, s5, s7, s8, s9, s10] H : R))
noncomputable def c10 (C : CallF) (l0 : List AV) (H : AH) (k : AV → AH → R) : R := opn 1 l0 (fun x0 => (qFn (fun kr => (r10_0 (r10_1 (r10_2 (qBl (fun k1 => (qLoop (l10_4 k1))) (r10_7 kr))))))
(fun fr H => k (sel 2 fr) H) [x0, Aes.undef, Aes.undef, Aes.undef, Aes.undef, Aes.undef, Aes.undef, Aes.undef, Aes.undef] H : R))
/- refectory/refectoryref08.Parse -/
noncomputable def r11_25 (k : KT R) : KT R := fun fr H => opn 19 fr (fun s0 s2 s3 s4 s5 s6 s7 s8 s9 s10 s11 s19 s40 s48 s62 s71 s87 s93 s102 => 
(qLdA 3 s9 H fun v104 =>
qSt 3 s2 v104 H fun _ H =>
k [s0, s2, (.int .i64 0), (.int .i64 0), s5, s6, s7, s8, s9, s10, s11, s19, s40, s48, s62, s71, s87, s93, s102] H : R))
noncomputable def r11_22 (k : KT R) : KT R := fun fr H => opn 19 fr (fun s0 s2 s3 s4 s5 s6 s7 s8 s9 s10 s11 s19 s40 s48 s62 s71 s87 s93 s102 => 
(qAdd X 3 s11 (.int .i64 1) fun v95 =>
k [s0, s2, s3, s4, s5, s6, s7, s8, s9, s10, v95, s19, s40, s48, s62, s71, s87, s93, s102] H : R))
noncomputable def r11_24 (k : KT R) : KT R := fun fr H => opn 19 fr (fun s0 s2 s3 s4 s5 s6 s7 s8 s9 s10 s11 s19 s40 s48 s62 s71 s87 s93 s102 => 
(qFa 1 s9 fun v103 =>
qSt 1 v103 (.str [77,117,116,97,116,105,111,110]) H fun _ H =>
k [s0, s2, s3, s4, s5, s6, s7, s8, s9, s10, s11, s19, s40, s48, s62, s71, s87, s93, s102] H : R))
noncomputable def r11_23 (k : KT R) : KT R := fun fr H => opn 19 fr (fun s0 s2 s3 s4 s5 s6 s7 s8 s9 s10 s11 s19 s40 s48 s62 s71 s87 s93 s102 => 
(qFa 2 s9 fun v96 =>
qLd v96 H fun v97 =>
qIa 5 v97 s11 fun v99 =>
qFa 1 v99 fun v100 =>
qLd v100 H fun v101 =>
qEql X 9 v101 (.str [77,117,116,97,116,105,111,110]) fun v102 =>
k [s0, s2, s3, s4, s5, s6, s7, s8, s9, s10, s11, s19, s40, s48, s62, s71, s87, s93, v102] H : R))
noncomputable def r11_21 (k : KT R) : KT R := fun fr H => opn 19 fr (fun s0 s2 s3 s4 s5 s6 s7 s8 s9 s10 s11 s19 s40 s48 s62 s71 s87 s93 s102 => 
(qFa 2 s9 fun v90 =>
qLd v90 H fun v91 =>
qLenL v91 fun v92 =>
qLss X 3 s11 v92 fun v93 =>
k [s0, s2, s3, s4, s5, s6, s7, s8, s9, s10, s11, s19, s40, s48, s62, s71, s87, v93, s102] H : R))
noncomputable def l11_6 (k2 : KT R) : KT R → KT R := fun k3 => (r11_21 (qCd (sel 17) (fun k6 => k6) (fun _ => k2) (qBl (fun k4 => (r11_23 (qCd (sel 18) (fun k5 => (r11_24 k5)) (fun k5 => k5) k4))) (r11_22 k3))))
noncomputable def r11_20 (k : KT R) : KT R := fun fr H => opn 19 fr (fun s0 s2 s3 s4 s5 s6 s7 s8 s9 s10 s11 s19 s40 s48 s62 s71 s87 s93 s102 => 
(k [s0, s2, s3, s4, s5, s6, s7, s8, s9, s10, (.int .i64 0), s19, s40, s48, s62, s71, s87, s93, s102] H : R))
noncomputable def r11_19 (k : KT R) : KT R := fun fr H => opn 19 fr (fun s0 s2 s3 s4 s5 s6 s7 s8 s9 s10 s11 s19 s40 s48 s62 s71 s87 s93 s102 => 
(qFa 0 s9 fun v88 =>
qSt 1 v88 (.str [81,117,101,114,121]) H fun _ H =>
k [s0, s2, s3, s4, s5, s6, s7, s8, s9, s10, s11, s19, s40, s48, s62, s71, s87, s93, s102] H : R))
noncomputable def r11_18 (k : KT R) : KT R := fun fr H => opn 19 fr (fun s0 s2 s3 s4 s5 s6 s7 s8 s9 s10 s11 s19 s40 s48 s62 s71 s87 s93 s102 => 
(qNot s10 fun v87 =>
k [s0, s2, s3, s4, s5, s6, s7, s8, s9, s10, s11, s19, s40, s48, s62, s71, v87, s93, s102] H : R))
noncomputable def r11_17 (k : KT R) : KT R := fun fr H => opn 19 fr (fun s0 s2 s3 s4 s5 s6 s7 s8 s9 s10 s11 s19 s40 s48 s62 s71 s87 s93 s102 => 
(qBld z24 [] fun v80 =>
qNc s8 fun v83 =>
qFa 2 v83 fun v84 =>
qLd v84 H fun v85 =>
qSt 3 s2 v80 H fun _ H =>
qLd v84 H fun w => qSame v85 w (k [s0, s2, s6, v85, s5, s6, s7, s8, s9, s10, s11, s19, s40, s48, s62, s71, s87, s93, s102] H) : R))
noncomputable def r11_16 (k : KT R) : KT R := fun fr H => opn 19 fr (fun s0 s2 s3 s4 s5 s6 s7 s8 s9 s10 s11 s19 s40 s48 s62 s71 s87 s93 s102 => 
(qNc s8 fun v74 =>
qFa 3 v74 fun v75 =>
qLd v75 H fun v76 =>
qIa 3 s5 v76 fun v77 =>
qFa 2 v77 fun v78 =>
qLd v78 H fun v79 =>
k [s0, s2, s3, s4, s5, v79, s7, s8, s9, s10, s11, s19, s40, s48, s62, s71, s87, s93, s102] H : R))
noncomputable def r11_15 (k : KT R) : KT R := fun fr H => opn 19 fr (fun s0 s2 s3 s4 s5 s6 s7 s8 s9 s10 s11 s19 s40 s48 s62 s71 s87 s93 s102 => 
(qNc s8 fun v66 =>
qFa 3 v66 fun v67 =>
qLd v67 H fun v68 =>
qLenL s5 fun v70 =>
qLss X 3 v68 v70 fun v71 =>
k [s0, s2, s3, s4, s5, s6, s7, s8, s9, s10, s11, s19, s40, s48, s62, v71, s87, s93, s102] H : R))
noncomputable def r11_14 (k : KT R) : KT R := fun fr H => opn 19 fr (fun s0 s2 s3 s4 s5 s6 s7 s8 s9 s10 s11 s19 s40 s48 s62 s71 s87 s93 s102 => 
(qLenS s0 fun v64 =>
k [s0, s2, s3, s4, s5, v64, s7, s8, s9, s10, s11, s19, s40, s48, s62, s71, s87, s93, s102] H : R))
noncomputable def r11_13 (k : KT R) : KT R := fun fr H => opn 19 fr (fun s0 s2 s3 s4 s5 s6 s7 s8 s9 s10 s11 s19 s40 s48 s62 s71 s87 s93 s102 => 
(qNc s8 fun v59 =>
qFa 2 v59 fun v60 =>
qLd v60 H fun v61 =>
qNeq X 56 v61 (.int .i64 0) fun v62 =>
k [s0, s2, s3, s4, s5, s6, s7, s8, s9, s10, s11, s19, s40, s48, v62, s71, s87, s93, s102] H : R))
noncomputable def r11_12 (C : CallF) (k : KT R) : KT R := fun fr H => opn 19 fr (fun s0 s2 s3 s4 s5 s6 s7 s8 s9 s10 s11 s19 s40 s48 s62 s71 s87 s93 s102 => 
(qFa 2 s9 fun v51 =>
qLd v51 H fun v52 =>
qRes (C 19 [s8] H) fun v54 H =>
qLd v51 H fun w => qSame v52 w (qRows z82 1 [(0, v54)] fun v55 =>
qApp 5 96 v52 v55 false none H fun v56 H =>
qFa 2 s9 fun v57 =>
qSt 1 v57 v56 H fun _ H =>
k [s0, s2, s3, s4, s5, s6, s7, s8, s9, s10, s11, s19, s40, s48, s62, s71, s87, s93, s102] H) : R))
noncomputable def r11_11 (C : CallF) (k : KT R) : KT R := fun fr H => opn 19 fr (fun s0 s2 s3 s4 s5 s6 s7 s8 s9 s10 s11 s19 s40 s48 s62 s71 s87 s93 s102 => 
(qRes (C 18 [s8, s9] H) fun v50 H =>
k [s0, s2, s3, s4, s5, s6, s7, s8, s9, s10, s11, s19, s40, s48, s62, s71, s87, s93, s102] H : R))
noncomputable def r11_10 (k : KT R) : KT R := fun fr H => opn 19 fr (fun s0 s2 s3 s4 s5 s6 s7 s8 s9 s10 s11 s19 s40 s48 s62 s71 s87 s93 s102 => 
(k [s0, s2, s3, s4, s5, s6, s7, s8, s9, (.bool true), s11, s19, s40, s48, s62, s71, s87, s93, s102] H : R))
noncomputable def r11_9 (C : CallF) (k : KT R) : KT R := fun fr H => opn 19 fr (fun s0 s2 s3 s4 s5 s6 s7 s8 s9 s10 s11 s19 s40 s48 s62 s71 s87 s93 s102 => 
(qNot s10 fun v44 =>
qG v44 true (fun k => k s8 H) H fun v46 H =>
qG v44 true (fun k => qRes (C 17 [v46, (.int .i64 1), (.str [115,99,104,101,109,97])] H) k) H fun v47 H =>
qPick v44 v47 (.bool false) fun v48 =>
k [s0, s2, s3, s4, s5, s6, s7, s8, s9, s10, s11, s19, s40, v48, s62, s71, s87, s93, s102] H : R))
noncomputable def r11_8 (C : CallF) (k : KT R) : KT R := fun fr H => opn 19 fr (fun s0 s2 s3 s4 s5 s6 s7 s8 s9 s10 s11 s19 s40 s48 s62 s71 s87 s93 s102 => 
(qRes (C 16 [s8] H) fun v42 H =>
k [s0, s2, s3, s4, s5, s6, s7, s8, s9, s10, s11, s19, s40, s48, s62, s71, s87, s93, s102] H : R))
noncomputable def r11_7 (k : KT R) : KT R := fun fr H => opn 19 fr (fun s0 s2 s3 s4 s5 s6 s7 s8 s9 s10 s11 s19 s40 s48 s62 s71 s87 s93 s102 => 
(qNc s8 fun v28 =>
qFa 2 v28 fun v29 =>
qLd v29 H fun v30 =>
qEql X 56 v30 (.int .i64 0) fun v31 =>
qG v31 true (fun k => k s8 H) H fun v33 H =>
qG v31 true (fun k => qNc v33 fun v => k v H) H fun v34 H =>
qG v31 true (fun k => qFa 1 v34 fun v => k v H) H fun v35 H =>
qG v31 true (fun k => qLd v35 H fun v => k v H) H fun v36 H =>
qG v31 true (fun k => k s5 H) H fun v37 H =>
qG v31 true (fun k => qLenL v37 fun v => k v H) H fun v38 H =>
qG v31 true (fun k => qLss X 3 v36 v38 fun v => k v H) H fun v39 H =>
qPick v31 v39 (.bool false) fun v40 =>
k [s0, s2, s3, s4, s5, s6, s7, s8, s9, s10, s11, s19, v40, s48, s62, s71, s87, s93, s102] H : R))
noncomputable def l11_13 (C : CallF) (k9 : KT R) : KT R → KT R := fun k10 => (r11_7 (qCd (sel 12) (fun k13 => k13) (fun _ => k9) (qBl (fun k11 => (r11_8 C (r11_9 C (qCd (sel 13) (fun _ => (r11_10 (r11_11 C k11))) (fun k12 => k12) (r11_12 C k11))))) k10)))
noncomputable def r11_6 (k : KT R) : KT R := fun fr H => opn 19 fr (fun s0 s2 s3 s4 s5 s6 s7 s8 s9 s10 s11 s19 s40 s48 s62 s71 s87 s93 s102 => 
(k [s0, s2, s3, s4, s5, s6, s7, s8, s9, (.bool false), s11, s19, s40, s48, s62, s71, s87, s93, s102] H : R))
noncomputable def r11_5 (k : KT R) : KT R := fun fr H => opn 19 fr (fun s0 s2 s3 s4 s5 s6 s7 s8 s9 s10 s11 s19 s40 s48 s62 s71 s87 s93 s102 => 
(qBld z24 [] fun v26 =>
qNew (.cells z24) .ptr H fun v9 H =>
qSt 3 v9 v26 H fun _ H =>
k [s0, s2, s3, s4, s5, s6, s7, s8, v9, s10, s11, s19, s40, s48, s62, s71, s87, s93, s102] H : R))
noncomputable def r11_4 (k : KT R) : KT R := fun fr H => opn 19 fr (fun s0 s2 s3 s4 s5 s6 s7 s8 s9 s10 s11 s19 s40 s48 s62 s71 s87 s93 s102 => 
(qBld z74 [(0, 1, s5)] fun v24 =>
qBox v24 H fun v25 H =>
k [s0, s2, s3, s4, s5, s6, s7, v25, s9, s10, s11, s19, s40, s48, s62, s71, s87, s93, s102] H : R))
noncomputable def r11_3 (k : KT R) : KT R := fun fr H => opn 19 fr (fun s0 s2 s3 s4 s5 s6 s7 s8 s9 s10 s11 s19 s40 s48 s62 s71 s87 s93 s102 => 
(qBld z24 [] fun v20 =>
qSt 3 s2 v20 H fun _ H =>
k [s0, s2, s6, s7, s5, s6, s7, s8, s9, s10, s11, s19, s40, s48, s62, s71, s87, s93, s102] H : R))
noncomputable def r11_2 (k : KT R) : KT R := fun fr H => opn 19 fr (fun s0 s2 s3 s4 s5 s6 s7 s8 s9 s10 s11 s19 s40 s48 s62 s71 s87 s93 s102 => 
(qNeq X 56 s7 (.int .i64 0) fun v19 =>
k [s0, s2, s3, s4, s5, s6, s7, s8, s9, s10, s11, v19, s40, s48, s62, s71, s87, s93, s102] H : R))
noncomputable def r11_1 (C : CallF) (k : KT R) : KT R := fun fr H => opn 19 fr (fun s0 s2 s3 s4 s5 s6 s7 s8 s9 s10 s11 s19 s40 s48 s62 s71 s87 s93 s102 => 
(qRes (C 15 [s0] H) fun v14 H =>
qExt v14 0 fun v15 =>
qExt v14 1 fun v16 =>
qExt v14 2 fun v17 =>
k [s0, s2, s3, s4, v15, v16, v17, s8, s9, s10, s11, s19, s40, s48, s62, s71, s87, s93, s102] H : R))
noncomputable def r11_0 (k : KT R) : KT R := fun fr H => opn 19 fr (fun s0 s2 s3 s4 s5 s6 s7 s8 s9 s10 s11 s19 s40 s48 s62 s71 s87 s93 s102 => 
(qNew (.cells z24) .ptr H fun v2 H =>
k [s0, v2, (.int .i64 0), (.int .i64 0), s5, s6, s7, s8, s9, s10, s11, s19, s40, s48, s62, s71, s87, s93, s102] H : R))
noncomputable def c11 (C : CallF) (l0 : List AV) (H : AH) (k : AV → AH → R) : R := opn 1 l0 (fun x0 => (qFn (fun kr => (r11_0 (r11_1 C (r11_2 (qCd (sel 11) (fun _ => (r11_3 kr)) (fun k14 => k14) (r11_4 (r11_5 (r11_6 (qBl (fun k9 => (qLoop (l11_13 C k9))) (r11_13 (qCd (sel 14) (fun _ => (r11_14 (r11_15 (qCd (sel 15) (fun k8 => (r11_16 k8)) (fun k8 => k8) (r11_17 kr))))) (fun k7 => k7) (r11_18 (qCd (sel 16) (fun k1 => (r11_19 (r11_20 (qBl (fun k2 => (qLoop (l11_6 k2))) k1)))) (fun k1 => k1) (r11_25 kr))))))))))))))
(fun fr H => qPtr (sel 1 fr) (qLdA 3 (sel 1 fr) H fun w0 => k (.tup [w0, (sel 2 fr), (sel 3 fr)]) H)) [x0, Aes.undef, Aes.undef, Aes.undef, Aes.undef, Aes.undef, Aes.undef, Aes.undef, Aes.undef, Aes.undef, Aes.undef, Aes.undef, Aes.undef, Aes.undef, Aes.undef, Aes.undef, Aes.undef, Aes.undef, Aes.undef] H : R))
/- (*refectory/collect.gather).walk -/
noncomputable def r12_14 (k : KT R) : KT R := fun fr H => opn 15 fr (fun s0 s1 s5 s6 s7 s8 s9 s10 s11 s14 s18 s25 s37 s42 s78 => 
(qAdd X 3 s10 (.int .i64 1) fun v83 =>
k [s0, s1, s5, s6, s7, s8, s9, v83, s11, s14, s18, s25, s37, s42, s78] H : R))
noncomputable def r12_5 (C : CallF) (k : KT R) : KT R := fun fr H => opn 15 fr (fun s0 s1 s5 s6 s7 s8 s9 s10 s11 s14 s18 s25 s37 s42 s78 => 
(qLdA 7 s5 H fun v23 =>
qRes (C 21 [s0, v23] H) fun v24 H =>
k [s0, s1, s5, s6, s7, s8, s9, s10, s11, s14, s18, s25, s37, s42, s78] H : R))
noncomputable def r12_8 (C : CallF) (k : KT R) : KT R := fun fr H => opn 15 fr (fun s0 s1 s5 s6 s7 s8 s9 s10 s11 s14 s18 s25 s37 s42 s78 => 
(qFa 6 s5 fun v39 =>
qLd v39 H fun v40 =>
qRes (C 12 [s0, v40] H) fun v41 H =>
k [s0, s1, s5, s6, s7, s8, s9, s10, s11, s14, s18, s25, s37, s42, s78] H : R))
noncomputable def r12_7 (C : CallF) (k : KT R) : KT R := fun fr H => opn 15 fr (fun s0 s1 s5 s6 s7 s8 s9 s10 s11 s14 s18 s25 s37 s42 s78 => 
(qFa 3 s5 fun v29 =>
qLd v29 H fun v30 =>
qEql X 9 v30 (.str []) fun v31 =>
qG v31 false (fun k => k s0 H) H fun v33 H =>
qG v31 false (fun k => qFa 3 s5 fun v => k v H) H fun v34 H =>
qG v31 false (fun k => qLd v34 H fun v => k v H) H fun v35 H =>
qG v31 false (fun k => qRes (C 22 [v33, v35] H) k) H fun v36 H =>
qPick v31 (.bool true) v36 fun v37 =>
k [s0, s1, s5, s6, s7, s8, s9, s10, s11, s14, s18, s25, v37, s42, s78] H : R))
noncomputable def r12_13 (C : CallF) (k : KT R) : KT R := fun fr H => opn 15 fr (fun s0 s1 s5 s6 s7 s8 s9 s10 s11 s14 s18 s25 s37 s42 s78 => 
(qFa 3 s6 fun v80 =>
qLd v80 H fun v81 =>
qRes (C 12 [s0, v81] H) fun v82 H =>
k [s0, s1, s5, s6, s7, s8, s9, s10, s11, s14, s18, s25, s37, s42, s78] H : R))
noncomputable def r12_12 (C : CallF) (k : KT R) : KT R := fun fr H => opn 15 fr (fun s0 s1 s5 s6 s7 s8 s9 s10 s11 s14 s18 s25 s37 s42 s78 => 
(qG s7 true (fun k => k s0 H) H fun v74 H =>
qG s7 true (fun k => qFa 1 s6 fun v => k v H) H fun v75 H =>
qG s7 true (fun k => qLd v75 H fun v => k v H) H fun v76 H =>
qG s7 true (fun k => qRes (C 22 [v74, v76] H) k) H fun v77 H =>
qPick s7 v77 (.bool false) fun v78 =>
k [s0, s1, s5, s6, s7, s8, s9, s10, s11, s14, s18, s25, s37, s42, v78] H : R))
noncomputable def r12_11 (C : CallF) (k : KT R) : KT R := fun fr H => opn 15 fr (fun s0 s1 s5 s6 s7 s8 s9 s10 s11 s14 s18 s25 s37 s42 s78 => 
(qNc s0 fun v64 =>
qFa 3 v64 fun v65 =>
qLdA 2 v65 H fun v66 =>
qFa 2 s5 fun v67 =>
qLd v67 H fun v68 =>
qNew (.cells z90) .ptr H fun v6 H =>
qRes (C 23 [v66, v68] H) fun v69 H =>
qKeep z90 v6 H (qExt v69 0 fun v70 =>
qExt v69 1 fun v71 =>
qSt 4 v6 v70 H fun _ H =>
k [s0, s1, s5, v6, v71, s8, s9, s10, s11, s14, s18, s25, s37, s42, s78] H) : R))
noncomputable def r12_10 (k : KT R) : KT R := fun fr H => opn 15 fr (fun s0 s1 s5 s6 s7 s8 s9 s10 s11 s14 s18 s25 s37 s42 s78 => 
(qNc s0 fun v57 =>
qFa 12 v57 fun v58 =>
qLd v58 H fun v59 =>
qFa 2 s5 fun v60 =>
qLd v60 H fun v61 =>
qMset X 60 v59 v61 (.bool true) H fun _ H =>
k [s0, s1, s5, s6, s7, s8, s9, s10, s11, s14, s18, s25, s37, s42, s78] H : R))
noncomputable def r12_9 (k : KT R) : KT R := fun fr H => opn 15 fr (fun s0 s1 s5 s6 s7 s8 s9 s10 s11 s14 s18 s25 s37 s42 s78 => 
(qFa 0 s5 fun v43 =>
qLd v43 H fun v44 =>
qEql X 3 v44 (.int .i64 2) fun v45 =>
qG v45 true (fun k => k s0 H) H fun v47 H =>
qG v45 true (fun k => qNc v47 fun v => k v H) H fun v48 H =>
qG v45 true (fun k => qFa 12 v48 fun v => k v H) H fun v49 H =>
qG v45 true (fun k => qLd v49 H fun v => k v H) H fun v50 H =>
qG v45 true (fun k => qFa 2 s5 fun v => k v H) H fun v51 H =>
qG v45 true (fun k => qLd v51 H fun v => k v H) H fun v52 H =>
qG v45 true (fun k => qO (lookup X 60 v50 v52 false H) fun v => k v H) H fun v53 H =>
qG v45 true (fun k => qNot v53 fun v => k v H) H fun v54 H =>
qPick v45 v54 (.bool false) fun v55 =>
k [s0, s1, s5, s6, s7, s8, s9, s10, s11, s14, s18, s25, s37, v55, s78] H : R))
noncomputable def r12_6 (k : KT R) : KT R := fun fr H => opn 15 fr (fun s0 s1 s5 s6 s7 s8 s9 s10 s11 s14 s18 s25 s37 s42 s78 => 
(qFa 0 s5 fun v26 =>
qLd v26 H fun v27 =>
qEql X 3 v27 (.int .i64 3) fun v28 =>
k [s0, s1, s5, s6, s7, s8, s9, s10, s11, s14, s18, v28, s37, s42, s78] H : R))
noncomputable def r12_4 (k : KT R) : KT R := fun fr H => opn 15 fr (fun s0 s1 s5 s6 s7 s8 s9 s10 s11 s14 s18 s25 s37 s42 s78 => 
(qFa 0 s5 fun v19 =>
qLd v19 H fun v20 =>
qEql X 3 v20 (.int .i64 1) fun v21 =>
k [s0, s1, s5, s6, s7, s8, s9, s10, s11, s14, v21, s25, s37, s42, s78] H : R))
noncomputable def r12_3 (C : CallF) (k : KT R) : KT R := fun fr H => opn 15 fr (fun s0 s1 s5 s6 s7 s8 s9 s10 s11 s14 s18 s25 s37 s42 s78 => 
(qLdA 7 s5 H fun v16 =>
qRes (C 20 [s0, v16] H) fun v17 H =>
k [s0, s1, s5, s6, s7, s8, s9, s10, s11, v17, s18, s25, s37, s42, s78] H : R))
noncomputable def r12_2 (k : KT R) : KT R := fun fr H => opn 15 fr (fun s0 s1 s5 s6 s7 s8 s9 s10 s11 s14 s18 s25 s37 s42 s78 => 
(qIa 7 s8 s10 fun v12 =>
qLdA 7 v12 H fun v13 =>
qNew (.cells z36) .ptr H fun v5 H =>
qSt 7 v5 v13 H fun _ H =>
k [s0, s1, v5, s6, s7, s8, s9, s10, s11, s14, s18, s25, s37, s42, s78] H : R))
noncomputable def r12_1 (k : KT R) : KT R := fun fr H => opn 15 fr (fun s0 s1 s5 s6 s7 s8 s9 s10 s11 s14 s18 s25 s37 s42 s78 => 
(qLss X 3 s10 s9 fun v11 =>
k [s0, s1, s5, s6, s7, s8, s9, s10, v11, s14, s18, s25, s37, s42, s78] H : R))
noncomputable def l12_11 (C : CallF) (k1 : KT R) : KT R → KT R := fun k2 => (r12_1 (qCd (sel 8) (fun k11 => k11) (fun _ => k1) (qBl (fun k3 => (r12_2 (qBl (fun k4 => (r12_3 C (qCd (sel 9) (fun k5 => k5) (fun k5 => (r12_4 (qCd (sel 10) (fun k6 => (r12_5 C k6)) (fun k6 => (r12_6 (qCd (sel 11) (fun k7 => (r12_7 C (qCd (sel 12) (fun k8 => (r12_8 C k8)) (fun k8 => k8) k7))) (fun k7 => (r12_9 (qCd (sel 13) (fun k9 => (r12_10 (r12_11 C (r12_12 C (qCd (sel 14) (fun k10 => (r12_13 C k10)) (fun k10 => k10) k9))))) (fun k9 => k9) k7))) k6))) k5))) k4))) k3))) (r12_14 k2))))
noncomputable def r12_0 (k : KT R) : KT R := fun fr H => opn 15 fr (fun s0 s1 s5 s6 s7 s8 s9 s10 s11 s14 s18 s25 s37 s42 s78 => 
(qLenL s1 fun v9 =>
k [s0, s1, s5, s6, s7, s1, v9, (.int .i64 0), s11, s14, s18, s25, s37, s42, s78] H : R))
noncomputable def c12 (C : CallF) (l0 : List AV) (H : AH) (k : AV → AH → R) : R := opn 2 l0 (fun x0 x1 => (qFn (fun kr => (r12_0 (qBl (fun k1 => (qLoop (l12_11 C k1))) kr)))
(fun fr H => k (.tup []) H) [x0, x1, Aes.undef, Aes.undef, Aes.undef, Aes.undef, Aes.undef, Aes.undef, Aes.undef, Aes.undef, Aes.undef, Aes.undef, Aes.undef, Aes.undef, Aes.undef] H : R))
/- refectory/refectoryref06.Parse -/
noncomputable def r13_19 (k : KT R) : KT R := fun fr H => opn 16 fr (fun s0 s2 s3 s4 s5 s6 s7 s8 s9 s10 s13 s22 s28 s50 s57 s66 => 
(qLdA 2 s9 H fun v81 =>
qSt 2 s2 v81 H fun _ H =>
k [s0, s2, (.int .i64 0), (.int .i64 0), s5, s6, s7, s8, s9, s10, s13, s22, s28, s50, s57, s66] H : R))
noncomputable def r13_18 (k : KT R) : KT R := fun fr H => opn 16 fr (fun s0 s2 s3 s4 s5 s6 s7 s8 s9 s10 s13 s22 s28 s50 s57 s66 => 
(qBld z46 [] fun v75 =>
qNc s8 fun v78 =>
qFa 2 v78 fun v79 =>
qLd v79 H fun v80 =>
qSt 2 s2 v75 H fun _ H =>
qLd v79 H fun w => qSame v80 w (k [s0, s2, s6, v80, s5, s6, s7, s8, s9, s10, s13, s22, s28, s50, s57, s66] H) : R))
noncomputable def r13_17 (k : KT R) : KT R := fun fr H => opn 16 fr (fun s0 s2 s3 s4 s5 s6 s7 s8 s9 s10 s13 s22 s28 s50 s57 s66 => 
(qNc s8 fun v69 =>
qFa 3 v69 fun v70 =>
qLd v70 H fun v71 =>
qIa 3 s5 v71 fun v72 =>
qFa 2 v72 fun v73 =>
qLd v73 H fun v74 =>
k [s0, s2, s3, s4, s5, v74, s7, s8, s9, s10, s13, s22, s28, s50, s57, s66] H : R))
noncomputable def r13_16 (k : KT R) : KT R := fun fr H => opn 16 fr (fun s0 s2 s3 s4 s5 s6 s7 s8 s9 s10 s13 s22 s28 s50 s57 s66 => 
(qNc s8 fun v61 =>
qFa 3 v61 fun v62 =>
qLd v62 H fun v63 =>
qLenL s5 fun v65 =>
qLss X 3 v63 v65 fun v66 =>
k [s0, s2, s3, s4, s5, s6, s7, s8, s9, s10, s13, s22, s28, s50, s57, v66] H : R))
noncomputable def r13_15 (k : KT R) : KT R := fun fr H => opn 16 fr (fun s0 s2 s3 s4 s5 s6 s7 s8 s9 s10 s13 s22 s28 s50 s57 s66 => 
(qLenS s0 fun v59 =>
k [s0, s2, s3, s4, s5, v59, s7, s8, s9, s10, s13, s22, s28, s50, s57, s66] H : R))
noncomputable def r13_14 (k : KT R) : KT R := fun fr H => opn 16 fr (fun s0 s2 s3 s4 s5 s6 s7 s8 s9 s10 s13 s22 s28 s50 s57 s66 => 
(qNc s8 fun v54 =>
qFa 2 v54 fun v55 =>
qLd v55 H fun v56 =>
qNeq X 56 v56 (.int .i64 0) fun v57 =>
k [s0, s2, s3, s4, s5, s6, s7, s8, s9, s10, s13, s22, s28, s50, v57, s66] H : R))
noncomputable def r13_12 (k : KT R) : KT R := fun fr H => opn 16 fr (fun s0 s2 s3 s4 s5 s6 s7 s8 s9 s10 s13 s22 s28 s50 s57 s66 => 
(k [s0, s2, s3, s4, s5, s6, s7, s8, s9, (.bool false), s13, s22, s28, s50, s57, s66] H : R))
noncomputable def r13_13 (C : CallF) (k : KT R) : KT R := fun fr H => opn 16 fr (fun s0 s2 s3 s4 s5 s6 s7 s8 s9 s10 s13 s22 s28 s50 s57 s66 => 
(qRes (C 24 [s8, s9] H) fun v52 H =>
k [s0, s2, s3, s4, s5, s6, s7, s8, s9, s10, s13, s22, s28, s50, s57, s66] H : R))
noncomputable def r13_11 (k : KT R) : KT R := fun fr H => opn 16 fr (fun s0 s2 s3 s4 s5 s6 s7 s8 s9 s10 s13 s22 s28 s50 s57 s66 => 
(qNc s8 fun v35 =>
qFa 2 v35 fun v36 =>
qLd v36 H fun v37 =>
qEql X 56 v37 (.int .i64 0) fun v38 =>
qG v38 true (fun k => k s10 H) H fun v40 H =>
qG v38 true (fun k => k v40 H) H fun v41 H =>
qG v41 false (fun k => k s8 H) H fun v42 H =>
qG v41 false (fun k => qNc v42 fun v => k v H) H fun v43 H =>
qG v41 false (fun k => qFa 1 v43 fun v => k v H) H fun v44 H =>
qG v41 false (fun k => qLd v44 H fun v => k v H) H fun v45 H =>
qG v41 false (fun k => k s5 H) H fun v46 H =>
qG v41 false (fun k => qLenL v46 fun v => k v H) H fun v47 H =>
qG v41 false (fun k => qLss X 3 v45 v47 fun v => k v H) H fun v48 H =>
qG v38 true (fun k => qPick v41 (.bool true) v48 fun v => k v H) H fun v49 H =>
qPick v38 v49 (.bool false) fun v50 =>
k [s0, s2, s3, s4, s5, s6, s7, s8, s9, s10, s13, s22, s28, v50, s57, s66] H : R))
noncomputable def l13_6 (C : CallF) (k3 : KT R) : KT R → KT R := fun k4 => (r13_11 (qCd (sel 13) (fun k6 => k6) (fun _ => k3) (qBl (fun k5 => (r13_13 C k5)) (r13_12 k4))))
noncomputable def r13_10 (k : KT R) : KT R := fun fr H => opn 16 fr (fun s0 s2 s3 s4 s5 s6 s7 s8 s9 s10 s13 s22 s28 s50 s57 s66 => 
(k [s0, s2, s3, s4, s5, s6, s7, s8, s9, (.bool true), s13, s22, s28, s50, s57, s66] H : R))
noncomputable def r13_9 (k : KT R) : KT R := fun fr H => opn 16 fr (fun s0 s2 s3 s4 s5 s6 s7 s8 s9 s10 s13 s22 s28 s50 s57 s66 => 
(qBld z46 [] fun v33 =>
qNew (.cells z46) .ptr H fun v9 H =>
qSt 2 v9 v33 H fun _ H =>
k [s0, s2, s3, s4, s5, s6, s7, s8, v9, s10, s13, s22, s28, s50, s57, s66] H : R))
noncomputable def r13_8 (k : KT R) : KT R := fun fr H => opn 16 fr (fun s0 s2 s3 s4 s5 s6 s7 s8 s9 s10 s13 s22 s28 s50 s57 s66 => 
(qBld z74 [(0, 1, s5), (4, 1, (.bool true))] fun v31 =>
qBox v31 H fun v32 H =>
k [s0, s2, s3, s4, s5, s6, s7, v32, s9, s10, s13, s22, s28, s50, s57, s66] H : R))
noncomputable def r13_7 (k : KT R) : KT R := fun fr H => opn 16 fr (fun s0 s2 s3 s4 s5 s6 s7 s8 s9 s10 s13 s22 s28 s50 s57 s66 => 
(qBld z46 [] fun v29 =>
qSt 2 s2 v29 H fun _ H =>
k [s0, s2, (.int .i64 0), (.int .i64 3), s5, s6, s7, s8, s9, s10, s13, s22, s28, s50, s57, s66] H : R))
noncomputable def r13_6 (k : KT R) : KT R := fun fr H => opn 16 fr (fun s0 s2 s3 s4 s5 s6 s7 s8 s9 s10 s13 s22 s28 s50 s57 s66 => 
(qLenL s5 fun v27 =>
qGtr X 3 v27 (.int .i64 600) fun v28 =>
k [s0, s2, s3, s4, s5, s6, s7, s8, s9, s10, s13, s22, v28, s50, s57, s66] H : R))
noncomputable def r13_5 (k : KT R) : KT R := fun fr H => opn 16 fr (fun s0 s2 s3 s4 s5 s6 s7 s8 s9 s10 s13 s22 s28 s50 s57 s66 => 
(qBld z46 [] fun v23 =>
qSt 2 s2 v23 H fun _ H =>
k [s0, s2, s6, s7, s5, s6, s7, s8, s9, s10, s13, s22, s28, s50, s57, s66] H : R))
noncomputable def r13_4 (k : KT R) : KT R := fun fr H => opn 16 fr (fun s0 s2 s3 s4 s5 s6 s7 s8 s9 s10 s13 s22 s28 s50 s57 s66 => 
(qNeq X 56 s7 (.int .i64 0) fun v22 =>
k [s0, s2, s3, s4, s5, s6, s7, s8, s9, s10, s13, v22, s28, s50, s57, s66] H : R))
noncomputable def r13_3 (C : CallF) (k : KT R) : KT R := fun fr H => opn 16 fr (fun s0 s2 s3 s4 s5 s6 s7 s8 s9 s10 s13 s22 s28 s50 s57 s66 => 
(qRes (C 15 [s0] H) fun v17 H =>
qExt v17 0 fun v18 =>
qExt v17 1 fun v19 =>
qExt v17 2 fun v20 =>
k [s0, s2, s3, s4, v18, v19, v20, s8, s9, s10, s13, s22, s28, s50, s57, s66] H : R))
noncomputable def r13_2 (k : KT R) : KT R := fun fr H => opn 16 fr (fun s0 s2 s3 s4 s5 s6 s7 s8 s9 s10 s13 s22 s28 s50 s57 s66 => 
(qBld z46 [] fun v14 =>
qSt 2 s2 v14 H fun _ H =>
k [s0, s2, (.int .i64 0), (.int .i64 3), s5, s6, s7, s8, s9, s10, s13, s22, s28, s50, s57, s66] H : R))
noncomputable def r13_1 (k : KT R) : KT R := fun fr H => opn 16 fr (fun s0 s2 s3 s4 s5 s6 s7 s8 s9 s10 s13 s22 s28 s50 s57 s66 => 
(qLenS s0 fun v12 =>
qGtr X 3 v12 (.int .i64 4000) fun v13 =>
k [s0, s2, s3, s4, s5, s6, s7, s8, s9, s10, v13, s22, s28, s50, s57, s66] H : R))
noncomputable def r13_0 (k : KT R) : KT R := fun fr H => opn 16 fr (fun s0 s2 s3 s4 s5 s6 s7 s8 s9 s10 s13 s22 s28 s50 s57 s66 => 
(qNew (.cells z46) .ptr H fun v2 H =>
k [s0, v2, (.int .i64 0), (.int .i64 0), s5, s6, s7, s8, s9, s10, s13, s22, s28, s50, s57, s66] H : R))
noncomputable def c13 (C : CallF) (l0 : List AV) (H : AH) (k : AV → AH → R) : R := opn 1 l0 (fun x0 => (qFn (fun kr => (r13_0 (r13_1 (qCd (sel 10) (fun _ => (r13_2 kr)) (fun k9 => k9) (r13_3 C (r13_4 (qCd (sel 11) (fun _ => (r13_5 kr)) (fun k8 => k8) (r13_6 (qCd (sel 12) (fun _ => (r13_7 kr)) (fun k7 => k7) (r13_8 (r13_9 (r13_10 (qBl (fun k3 => (qLoop (l13_6 C k3))) (r13_14 (qCd (sel 14) (fun _ => (r13_15 (r13_16 (qCd (sel 15) (fun k2 => (r13_17 k2)) (fun k2 => k2) (r13_18 kr))))) (fun k1 => k1) (r13_19 kr))))))))))))))))
(fun fr H => qPtr (sel 1 fr) (qLdA 2 (sel 1 fr) H fun w0 => k (.tup [w0, (sel 2 fr), (sel 3 fr)]) H)) [x0, Aes.undef, Aes.undef, Aes.undef, Aes.undef, Aes.undef, Aes.undef, Aes.undef, Aes.undef, Aes.undef, Aes.undef, Aes.undef, Aes.undef, Aes.undef, Aes.undef, Aes.undef] H : R))
/- refectory/refectoryref08.Digits -/
noncomputable def r14_8 (C : CallF) (k : KT R) : KT R := fun fr H => opn 6 fr (fun s0 s2 s3 s4 s18 s28 => 
(qQuo X 3 s0 (.int .i64 10) fun v36 =>
qRem X 3 s0 (.int .i64 10) fun v39 =>
qRem X 3 s0 (.int .i64 10) fun v41 =>
qAdd X 3 v41 (.int .i64 1) fun v42 =>
qSlc Try.t9.desc 0 (.str [48,49,50,51,52,53,54,55,56,57]) (some v39) (some v42) none fun v43 =>
qRes (C 14 [v36] H) fun v37 H =>
qAdd X 9 v37 v43 fun v44 =>
k [s0, v44, s3, s4, s18, s28] H : R))
noncomputable def r14_3 (C : CallF) (k : KT R) : KT R := fun fr H => opn 6 fr (fun s0 s2 s3 s4 s18 s28 => 
(qQuo X 3 s0 (.int .i64 10) fun v11 =>
qAdd X 3 s3 (.int .i64 1) fun v15 =>
qSlc Try.t9.desc 0 (.str [48,49,50,51,52,53,54,55,56,57]) (some s3) (some v15) none fun v16 =>
qRes (C 14 [v11] H) fun v12 H =>
qAdd X 9 v12 v16 fun v17 =>
k [s0, v17, s3, s4, s18, s28] H : R))
noncomputable def r14_2 (k : KT R) : KT R := fun fr H => opn 6 fr (fun s0 s2 s3 s4 s18 s28 => 
(qRem X 3 s0 (.int .i64 10) fun v8 =>
qUn .neg v8 fun v9 =>
k [s0, s2, v9, s4, s18, s28] H : R))
noncomputable def r14_5 (k : KT R) : KT R := fun fr H => opn 6 fr (fun s0 s2 s3 s4 s18 s28 => 
(qUn .neg s0 fun v22 =>
qUn .neg s0 fun v24 =>
qAdd X 3 v24 (.int .i64 1) fun v25 =>
qSlc Try.t9.desc 0 (.str [48,49,50,51,52,53,54,55,56,57]) (some v22) (some v25) none fun v26 =>
qAdd X 9 (.str [45]) v26 fun v27 =>
k [s0, v27, s3, s4, s18, s28] H : R))
noncomputable def r14_7 (k : KT R) : KT R := fun fr H => opn 6 fr (fun s0 s2 s3 s4 s18 s28 => 
(qAdd X 3 s0 (.int .i64 1) fun v33 =>
qSlc Try.t9.desc 0 (.str [48,49,50,51,52,53,54,55,56,57]) (some s0) (some v33) none fun v34 =>
k [s0, v34, s3, s4, s18, s28] H : R))
noncomputable def r14_6 (k : KT R) : KT R := fun fr H => opn 6 fr (fun s0 s2 s3 s4 s18 s28 => 
(qLss X 3 s0 (.int .i64 10) fun v30 =>
k [s0, s2, s3, s4, s18, v30] H : R))
noncomputable def r14_4 (k : KT R) : KT R := fun fr H => opn 6 fr (fun s0 s2 s3 s4 s18 s28 => 
(qLss X 3 s0 (.int .i64 0) fun v20 =>
k [s0, s2, s3, s4, v20, s28] H : R))
noncomputable def r14_1 (k : KT R) : KT R := fun fr H => opn 6 fr (fun s0 s2 s3 s4 s18 s28 => 
(qLeq X 3 s0 (.int .i64 (-10)) fun v6 =>
k [s0, s2, s3, v6, s18, s28] H : R))
noncomputable def r14_0 (k : KT R) : KT R := fun fr H => opn 6 fr (fun s0 s2 s3 s4 s18 s28 => 
(k [s0, (.str []), s3, s4, s18, s28] H : R))
noncomputable def c14 (C : CallF) (l0 : List AV) (H : AH) (k : AV → AH → R) : R := opn 1 l0 (fun x0 => (qFn (fun kr => (r14_0 (qBl (fun k1 => (r14_1 (qCd (sel 3) (fun _ => (r14_2 (r14_3 C kr))) (fun k2 => (r14_4 (qCd (sel 4) (fun _ => (r14_5 kr)) (fun k3 => (r14_6 (qCd (sel 5) (fun _ => (r14_7 kr)) (fun k4 => k4) k3))) k2))) k1))) (r14_8 C kr))))
(fun fr H => k (sel 1 fr) H) [x0, Aes.undef, Aes.undef, Aes.undef, Aes.undef, Aes.undef] H : R))
/- refectory/refectoryref04.All -/
noncomputable def r15_21 (k : KT R) : KT R := fun fr H => opn 16 fr (fun s0 s2 s3 s4 s5 s6 s7 s8 s9 s12 s16 s19 s28 s35 s43 s60 => 
(k [s0, s5, (.int .i64 0), (.int .i64 0), s5, s6, s7, s8, s9, s12, s16, s19, s28, s35, s43, s60] H : R))
noncomputable def r15_17 (k : KT R) : KT R := fun fr H => opn 16 fr (fun s0 s2 s3 s4 s5 s6 s7 s8 s9 s12 s16 s19 s28 s35 s43 s60 => 
(qAdd X 3 s6 (.int .i64 1) fun v42 =>
k [s0, s2, s3, s4, s5, v42, s7, s8, s9, s12, s16, s19, s28, s35, s43, s60] H : R))
noncomputable def r15_20 (k : KT R) : KT R := fun fr H => opn 16 fr (fun s0 s2 s3 s4 s5 s6 s7 s8 s9 s12 s16 s19 s28 s35 s43 s60 => 
(qAdd X 3 s6 (.int .i64 1) fun v62 =>
k [s0, s2, s3, s4, s5, v62, s7, s8, s9, s12, s16, s19, s28, s35, s43, s60] H : R))
noncomputable def r15_19 (k : KT R) : KT R := fun fr H => opn 16 fr (fun s0 s2 s3 s4 s5 s6 s7 s8 s9 s12 s16 s19 s28 s35 s43 s60 => 
(qLenS s0 fun v47 =>
qLss X 3 s6 v47 fun v48 =>
qG v48 true (fun k => k s0 H) H fun v50 H =>
qG v48 true (fun k => k s6 H) H fun v51 H =>
qG v48 true (fun k => qIx v50 v51 fun v => k v H) H fun v52 H =>
qG v48 true (fun k => qNeq X 5 v52 (.int .u8 10) fun v => k v H) H fun v53 H =>
qPick v48 v53 (.bool false) fun v54 =>
qG v54 true (fun k => k s0 H) H fun v56 H =>
qG v54 true (fun k => k s6 H) H fun v57 H =>
qG v54 true (fun k => qIx v56 v57 fun v => k v H) H fun v58 H =>
qG v54 true (fun k => qNeq X 5 v58 (.int .u8 13) fun v => k v H) H fun v59 H =>
qPick v54 v59 (.bool false) fun v60 =>
k [s0, s2, s3, s4, s5, s6, s7, s8, s9, s12, s16, s19, s28, s35, s43, v60] H : R))
noncomputable def l15_10 (k7 : KT R) : KT R → KT R := fun k8 => (r15_19 (qCd (sel 15) (fun k10 => k10) (fun _ => k7) (qBl (fun k9 => (r15_20 k9)) k8)))
noncomputable def r15_11 (k : KT R) : KT R := fun fr H => opn 16 fr (fun s0 s2 s3 s4 s5 s6 s7 s8 s9 s12 s16 s19 s28 s35 s43 s60 => 
(k [s0, s2, s3, s4, s5, s8, s7, s8, s9, s12, s16, s19, s28, s35, s43, s60] H : R))
noncomputable def r15_10 (k : KT R) : KT R := fun fr H => opn 16 fr (fun s0 s2 s3 s4 s5 s6 s7 s8 s9 s12 s16 s19 s28 s35 s43 s60 => 
(qLdA 3 s7 H fun v31 =>
qRows z85 1 [(0, v31)] fun v32 =>
qApp 3 32 s5 v32 false none H fun v33 H =>
k [s0, s2, s3, s4, v33, s6, s7, s8, s9, s12, s16, s19, s28, s35, s43, s60] H : R))
noncomputable def r15_9 (k : KT R) : KT R := fun fr H => opn 16 fr (fun s0 s2 s3 s4 s5 s6 s7 s8 s9 s12 s16 s19 s28 s35 s43 s60 => 
(k [s0, (.sl [] .nil), s6, (.int .i64 2), s5, s6, s7, s8, s9, s12, s16, s19, s28, s35, s43, s60] H : R))
noncomputable def r15_8 (k : KT R) : KT R := fun fr H => opn 16 fr (fun s0 s2 s3 s4 s5 s6 s7 s8 s9 s12 s16 s19 s28 s35 s43 s60 => 
(qNot s9 fun v28 =>
k [s0, s2, s3, s4, s5, s6, s7, s8, s9, s12, s16, s19, v28, s35, s43, s60] H : R))
noncomputable def r15_7 (C : CallF) (k : KT R) : KT R := fun fr H => opn 16 fr (fun s0 s2 s3 s4 s5 s6 s7 s8 s9 s12 s16 s19 s28 s35 s43 s60 => 
(qRes (C 25 [s0, s6] H) fun v23 H =>
qExt v23 0 fun v24 =>
qExt v23 1 fun v25 =>
qExt v23 2 fun v26 =>
qNew (.cells z85) .ptr H fun v7 H =>
qSt 3 v7 v24 H fun _ H =>
k [s0, s2, s3, s4, s5, s6, v7, v25, v26, s12, s16, s19, s28, s35, s43, s60] H : R))
noncomputable def r15_18 (k : KT R) : KT R := fun fr H => opn 16 fr (fun s0 s2 s3 s4 s5 s6 s7 s8 s9 s12 s16 s19 s28 s35 s43 s60 => 
(qEql X 5 s19 (.int .u8 35) fun v44 =>
k [s0, s2, s3, s4, s5, s6, s7, s8, s9, s12, s16, s19, s28, s35, v44, s60] H : R))
noncomputable def r15_16 (k : KT R) : KT R := fun fr H => opn 16 fr (fun s0 s2 s3 s4 s5 s6 s7 s8 s9 s12 s16 s19 s28 s35 s43 s60 => 
(qEql X 5 s19 (.int .u8 44) fun v40 =>
k [s0, s2, s3, s4, s5, s6, s7, s8, s9, s12, s16, s19, s28, v40, s43, s60] H : R))
noncomputable def r15_15 (k : KT R) : KT R := fun fr H => opn 16 fr (fun s0 s2 s3 s4 s5 s6 s7 s8 s9 s12 s16 s19 s28 s35 s43 s60 => 
(qEql X 5 s19 (.int .u8 13) fun v39 =>
k [s0, s2, s3, s4, s5, s6, s7, s8, s9, s12, s16, s19, s28, v39, s43, s60] H : R))
noncomputable def r15_14 (k : KT R) : KT R := fun fr H => opn 16 fr (fun s0 s2 s3 s4 s5 s6 s7 s8 s9 s12 s16 s19 s28 s35 s43 s60 => 
(qEql X 5 s19 (.int .u8 10) fun v38 =>
k [s0, s2, s3, s4, s5, s6, s7, s8, s9, s12, s16, s19, s28, v38, s43, s60] H : R))
noncomputable def r15_13 (k : KT R) : KT R := fun fr H => opn 16 fr (fun s0 s2 s3 s4 s5 s6 s7 s8 s9 s12 s16 s19 s28 s35 s43 s60 => 
(qEql X 5 s19 (.int .u8 9) fun v37 =>
k [s0, s2, s3, s4, s5, s6, s7, s8, s9, s12, s16, s19, s28, v37, s43, s60] H : R))
noncomputable def r15_12 (k : KT R) : KT R := fun fr H => opn 16 fr (fun s0 s2 s3 s4 s5 s6 s7 s8 s9 s12 s16 s19 s28 s35 s43 s60 => 
(qEql X 5 s19 (.int .u8 32) fun v36 =>
k [s0, s2, s3, s4, s5, s6, s7, s8, s9, s12, s16, s19, s28, v36, s43, s60] H : R))
noncomputable def r15_6 (k : KT R) : KT R := fun fr H => opn 16 fr (fun s0 s2 s3 s4 s5 s6 s7 s8 s9 s12 s16 s19 s28 s35 s43 s60 => 
(qIx s0 s6 fun v19 =>
k [s0, s2, s3, s4, s5, s6, s7, s8, s9, s12, s16, v19, s28, s35, s43, s60] H : R))
noncomputable def r15_5 (k : KT R) : KT R := fun fr H => opn 16 fr (fun s0 s2 s3 s4 s5 s6 s7 s8 s9 s12 s16 s19 s28 s35 s43 s60 => 
(qLenS s0 fun v15 =>
qLss X 3 s6 v15 fun v16 =>
k [s0, s2, s3, s4, s5, s6, s7, s8, s9, s12, v16, s19, s28, s35, s43, s60] H : R))
noncomputable def l15_16 (C : CallF) (k1 : KT R) (kr : KT R) : KT R → KT R := fun k2 => (r15_5 (qCd (sel 10) (fun k16 => k16) (fun _ => k1) (qBl (fun k3 => (r15_6 (qBl (fun k4 => (r15_12 (qCd (sel 13) (fun k12 => k12) (fun k12 => (r15_13 (qCd (sel 13) (fun k13 => k13) (fun k13 => (r15_14 (qCd (sel 13) (fun k14 => k14) (fun k14 => (r15_15 (qCd (sel 13) (fun k15 => k15) (fun k15 => (r15_16 k15)) k14))) k13))) k12))) (qCd (sel 13) (fun k5 => (r15_17 k5)) (fun k5 => (r15_18 (qCd (sel 14) (fun k6 => (qBl (fun k7 => (qLoop (l15_10 k7))) k6)) (fun k6 => (r15_7 C (r15_8 (qCd (sel 12) (fun _ => (r15_9 kr)) (fun k11 => k11) (r15_10 (r15_11 k6)))))) k5))) k4)))) k3))) k2)))
noncomputable def r15_4 (k : KT R) : KT R := fun fr H => opn 16 fr (fun s0 s2 s3 s4 s5 s6 s7 s8 s9 s12 s16 s19 s28 s35 s43 s60 => 
(k [s0, s2, s3, s4, s5, (.int .i64 0), s7, s8, s9, s12, s16, s19, s28, s35, s43, s60] H : R))
noncomputable def r15_3 (k : KT R) : KT R := fun fr H => opn 16 fr (fun s0 s2 s3 s4 s5 s6 s7 s8 s9 s12 s16 s19 s28 s35 s43 s60 => 
(k [s0, s2, s3, s4, (.sl [] .nil), s6, s7, s8, s9, s12, s16, s19, s28, s35, s43, s60] H : R))
noncomputable def r15_2 (k : KT R) : KT R := fun fr H => opn 16 fr (fun s0 s2 s3 s4 s5 s6 s7 s8 s9 s12 s16 s19 s28 s35 s43 s60 => 
(k [s0, (.sl [] .nil), (.int .i64 0), (.int .i64 3), s5, s6, s7, s8, s9, s12, s16, s19, s28, s35, s43, s60] H : R))
noncomputable def r15_1 (k : KT R) : KT R := fun fr H => opn 16 fr (fun s0 s2 s3 s4 s5 s6 s7 s8 s9 s12 s16 s19 s28 s35 s43 s60 => 
(qLenS s0 fun v11 =>
qGtr X 3 v11 (.int .i64 8000) fun v12 =>
k [s0, s2, s3, s4, s5, s6, s7, s8, s9, v12, s16, s19, s28, s35, s43, s60] H : R))
noncomputable def r15_0 (k : KT R) : KT R := fun fr H => opn 16 fr (fun s0 s2 s3 s4 s5 s6 s7 s8 s9 s12 s16 s19 s28 s35 s43 s60 => 
(k [s0, (.sl [] .nil), (.int .i64 0), (.int .i64 0), s5, s6, s7, s8, s9, s12, s16, s19, s28, s35, s43, s60] H : R))
noncomputable def c15 (C : CallF) (l0 : List AV) (H : AH) (k : AV → AH → R) : R := opn 1 l0 (fun x0 => (qFn (fun kr => (r15_0 (r15_1 (qCd (sel 9) (fun _ => (r15_2 kr)) (fun k17 => k17) (r15_3 (r15_4 (qBl (fun k1 => (qLoop (l15_16 C k1 kr))) (r15_21 kr))))))))
(fun fr H => k (.tup [(sel 1 fr), (sel 2 fr), (sel 3 fr)]) H) [x0, Aes.undef, Aes.undef, Aes.undef, Aes.undef, Aes.undef, Aes.undef, Aes.undef, Aes.undef, Aes.undef, Aes.undef, Aes.undef, Aes.undef, Aes.undef, Aes.undef, Aes.undef] H : R))
/- refectory/refectoryref08.said -/
noncomputable def r16_1 (k : KT R) : KT R := fun fr H => opn 2 fr (fun s0 s4 => 
(qNc s0 fun v6 =>
qFa 1 v6 fun v7 =>
qLd v7 H fun v8 =>
qAdd X 3 v8 (.int .i64 1) fun v9 =>
qNc s0 fun v10 =>
qFa 1 v10 fun v11 =>
qSt 1 v11 v9 H fun _ H =>
k [s0, s4] H : R))
noncomputable def r16_0 (C : CallF) (k : KT R) : KT R := fun fr H => opn 2 fr (fun s0 s4 => 
(qRes (C 26 [s0] H) fun v3 H =>
qEql X 3 v3 (.int .i64 4) fun v4 =>
k [s0, v4] H : R))
noncomputable def c16 (C : CallF) (l0 : List AV) (H : AH) (k : AV → AH → R) : R := opn 1 l0 (fun x0 => (qFn (fun kr => (r16_0 C (qCd (sel 1) (fun k1 => (r16_1 k1)) (fun k1 => k1) kr)))
(fun fr H => k (.tup []) H) [x0, Aes.undef] H : R))
/- (*refectory/refectoryref05.P).Take -/
noncomputable def r17_4 (k : KT R) : KT R := fun fr H => opn 6 fr (fun s0 s1 s2 s6 s7 s12 => 
(k [s0, s1, s2, s7, s7, s12] H : R))
noncomputable def r17_3 (k : KT R) : KT R := fun fr H => opn 6 fr (fun s0 s1 s2 s6 s7 s12 => 
(qNc s0 fun v14 =>
qFa 1 v14 fun v15 =>
qLd v15 H fun v16 =>
qAdd X 3 v16 (.int .i64 1) fun v17 =>
qNc s0 fun v18 =>
qFa 1 v18 fun v19 =>
qSt 1 v19 v17 H fun _ H =>
k [s0, s1, s2, s6, s7, s12] H : R))
noncomputable def r17_2 (k : KT R) : KT R := fun fr H => opn 6 fr (fun s0 s1 s2 s6 s7 s12 => 
(k [s0, s1, s2, s6, s7, s7] H : R))
noncomputable def r17_1 (C : CallF) (k : KT R) : KT R := fun fr H => opn 6 fr (fun s0 s1 s2 s6 s7 s12 => 
(qRes (C 27 [s0, s1, s2] H) fun v11 H =>
k [s0, s1, s2, s6, v11, s12] H : R))
noncomputable def r17_0 (k : KT R) : KT R := fun fr H => opn 6 fr (fun s0 s1 s2 s6 s7 s12 => 
(k [s0, s1, s2, (.bool false), s7, s12] H : R))
noncomputable def c17 (C : CallF) (l0 : List AV) (H : AH) (k : AV → AH → R) : R := opn 3 l0 (fun x0 x1 x2 => (qFn (fun kr => (r17_0 (r17_1 C (r17_2 (qCd (sel 5) (fun k1 => (r17_3 k1)) (fun k1 => k1) (r17_4 kr))))))
(fun fr H => k (sel 3 fr) H) [x0, x1, x2, Aes.undef, Aes.undef, Aes.undef] H : R))
/- refectory/refectoryref08.roots -/
noncomputable def r18_8 (C : CallF) (k : KT R) : KT R := fun fr H => opn 4 fr (fun s0 s1 s8 s19 => 
(qRes (C 28 [s0, (.str [125])] H) fun v28 H =>
k [s0, s1, s8, s19] H : R))
noncomputable def r18_7 (C : CallF) (k : KT R) : KT R := fun fr H => opn 4 fr (fun s0 s1 s8 s19 => 
(qRes (C 30 [s0] H) fun v24 H =>
qNc s1 fun v25 =>
qFa 1 v25 fun v26 =>
qSt 1 v26 v24 H fun _ H =>
k [s0, s1, s8, s19] H : R))
noncomputable def r18_6 (C : CallF) (k : KT R) : KT R := fun fr H => opn 4 fr (fun s0 s1 s8 s19 => 
(qRes (C 28 [s0, (.str [58])] H) fun v21 H =>
k [s0, s1, s8, s19] H : R))
noncomputable def r18_5 (C : CallF) (k : KT R) : KT R := fun fr H => opn 4 fr (fun s0 s1 s8 s19 => 
(qRes (C 17 [s0, (.int .i64 1), (.str [109,117,116,97,116,105,111,110])] H) fun v19 H =>
k [s0, s1, s8, v19] H : R))
noncomputable def r18_4 (C : CallF) (k : KT R) : KT R := fun fr H => opn 4 fr (fun s0 s1 s8 s19 => 
(qRes (C 30 [s0] H) fun v15 H =>
qNc s1 fun v16 =>
qFa 0 v16 fun v17 =>
qSt 1 v17 v15 H fun _ H =>
k [s0, s1, s8, s19] H : R))
noncomputable def r18_3 (C : CallF) (k : KT R) : KT R := fun fr H => opn 4 fr (fun s0 s1 s8 s19 => 
(qRes (C 28 [s0, (.str [58])] H) fun v12 H =>
k [s0, s1, s8, s19] H : R))
noncomputable def r18_2 (C : CallF) (k : KT R) : KT R := fun fr H => opn 4 fr (fun s0 s1 s8 s19 => 
(qRes (C 29 [s0] H) fun v10 H =>
k [s0, s1, s8, s19] H : R))
noncomputable def r18_1 (C : CallF) (k : KT R) : KT R := fun fr H => opn 4 fr (fun s0 s1 s8 s19 => 
(qRes (C 17 [s0, (.int .i64 1), (.str [113,117,101,114,121])] H) fun v7 H =>
qNot v7 fun v8 =>
k [s0, s1, v8, s19] H : R))
noncomputable def r18_0 (C : CallF) (k : KT R) : KT R := fun fr H => opn 4 fr (fun s0 s1 s8 s19 => 
(qRes (C 28 [s0, (.str [123])] H) fun v5 H =>
k [s0, s1, s8, s19] H : R))
noncomputable def c18 (C : CallF) (l0 : List AV) (H : AH) (k : AV → AH → R) : R := opn 2 l0 (fun x0 x1 => (qFn (fun kr => (r18_0 C (r18_1 C (qCd (sel 2) (fun k2 => (r18_2 C k2)) (fun k2 => k2) (r18_3 C (r18_4 C (r18_5 C (qCd (sel 3) (fun k1 => (r18_6 C (r18_7 C k1))) (fun k1 => k1) (r18_8 C kr)))))))))
(fun fr H => k (.tup []) H) [x0, x1, Aes.undef, Aes.undef] H : R))
/- refectory/refectoryref08.def -/
noncomputable def r19_23 (k : KT R) : KT R := fun fr H => opn 10 fr (fun s0 s2 s3 s7 s14 s22 s29 s39 s51 s61 => 
(qLdA 5 s3 H fun v71 =>
qSt 5 s2 v71 H fun _ H =>
k [s0, s2, s3, s7, s14, s22, s29, s39, s51, s61] H : R))
noncomputable def r19_4 (C : CallF) (k : KT R) : KT R := fun fr H => opn 10 fr (fun s0 s2 s3 s7 s14 s22 s29 s39 s51 s61 => 
(qRes (C 30 [s0] H) fun v11 H =>
qFa 0 s3 fun v12 =>
qSt 1 v12 (.int .i64 1) H fun _ H =>
qFa 1 s3 fun v13 =>
qSt 1 v13 v11 H fun _ H =>
k [s0, s2, s3, s7, s14, s22, s29, s39, s51, s61] H : R))
noncomputable def r19_9 (C : CallF) (k : KT R) : KT R := fun fr H => opn 10 fr (fun s0 s2 s3 s7 s14 s22 s29 s39 s51 s61 => 
(qRes (C 32 [s0] H) fun v27 H =>
qFa 3 s3 fun v28 =>
qSt 1 v28 v27 H fun _ H =>
k [s0, s2, s3, s7, s14, s22, s29, s39, s51, s61] H : R))
noncomputable def r19_8 (C : CallF) (k : KT R) : KT R := fun fr H => opn 10 fr (fun s0 s2 s3 s7 s14 s22 s29 s39 s51 s61 => 
(qRes (C 31 [s0, (.str [38])] H) fun v24 H =>
qFa 2 s3 fun v25 =>
qSt 1 v25 v24 H fun _ H =>
k [s0, s2, s3, s7, s14, s22, s29, s39, s51, s61] H : R))
noncomputable def r19_7 (C : CallF) (k : KT R) : KT R := fun fr H => opn 10 fr (fun s0 s2 s3 s7 s14 s22 s29 s39 s51 s61 => 
(qRes (C 17 [s0, (.int .i64 1), (.str [105,109,112,108,101,109,101,110,116,115])] H) fun v22 H =>
k [s0, s2, s3, s7, s14, v22, s29, s39, s51, s61] H : R))
noncomputable def r19_6 (C : CallF) (k : KT R) : KT R := fun fr H => opn 10 fr (fun s0 s2 s3 s7 s14 s22 s29 s39 s51 s61 => 
(qRes (C 30 [s0] H) fun v18 H =>
qFa 0 s3 fun v19 =>
qSt 1 v19 (.int .i64 2) H fun _ H =>
qFa 1 s3 fun v20 =>
qSt 1 v20 v18 H fun _ H =>
k [s0, s2, s3, s7, s14, s22, s29, s39, s51, s61] H : R))
noncomputable def r19_12 (C : CallF) (k : KT R) : KT R := fun fr H => opn 10 fr (fun s0 s2 s3 s7 s14 s22 s29 s39 s51 s61 => 
(qRes (C 32 [s0] H) fun v37 H =>
qFa 3 s3 fun v38 =>
qSt 1 v38 v37 H fun _ H =>
k [s0, s2, s3, s7, s14, s22, s29, s39, s51, s61] H : R))
noncomputable def r19_11 (C : CallF) (k : KT R) : KT R := fun fr H => opn 10 fr (fun s0 s2 s3 s7 s14 s22 s29 s39 s51 s61 => 
(qRes (C 30 [s0] H) fun v33 H =>
qFa 0 s3 fun v34 =>
qSt 1 v34 (.int .i64 3) H fun _ H =>
qFa 1 s3 fun v35 =>
qSt 1 v35 v33 H fun _ H =>
k [s0, s2, s3, s7, s14, s22, s29, s39, s51, s61] H : R))
noncomputable def r19_16 (C : CallF) (k : KT R) : KT R := fun fr H => opn 10 fr (fun s0 s2 s3 s7 s14 s22 s29 s39 s51 s61 => 
(qRes (C 31 [s0, (.str [124])] H) fun v49 H =>
qFa 2 s3 fun v50 =>
qSt 1 v50 v49 H fun _ H =>
k [s0, s2, s3, s7, s14, s22, s29, s39, s51, s61] H : R))
noncomputable def r19_15 (C : CallF) (k : KT R) : KT R := fun fr H => opn 10 fr (fun s0 s2 s3 s7 s14 s22 s29 s39 s51 s61 => 
(qRes (C 28 [s0, (.str [61])] H) fun v47 H =>
k [s0, s2, s3, s7, s14, s22, s29, s39, s51, s61] H : R))
noncomputable def r19_14 (C : CallF) (k : KT R) : KT R := fun fr H => opn 10 fr (fun s0 s2 s3 s7 s14 s22 s29 s39 s51 s61 => 
(qRes (C 30 [s0] H) fun v43 H =>
qFa 0 s3 fun v44 =>
qSt 1 v44 (.int .i64 4) H fun _ H =>
qFa 1 s3 fun v45 =>
qSt 1 v45 v43 H fun _ H =>
k [s0, s2, s3, s7, s14, s22, s29, s39, s51, s61] H : R))
noncomputable def r19_19 (C : CallF) (k : KT R) : KT R := fun fr H => opn 10 fr (fun s0 s2 s3 s7 s14 s22 s29 s39 s51 s61 => 
(qRes (C 33 [s0] H) fun v59 H =>
qFa 2 s3 fun v60 =>
qSt 1 v60 v59 H fun _ H =>
k [s0, s2, s3, s7, s14, s22, s29, s39, s51, s61] H : R))
noncomputable def r19_18 (C : CallF) (k : KT R) : KT R := fun fr H => opn 10 fr (fun s0 s2 s3 s7 s14 s22 s29 s39 s51 s61 => 
(qRes (C 30 [s0] H) fun v55 H =>
qFa 0 s3 fun v56 =>
qSt 1 v56 (.int .i64 5) H fun _ H =>
qFa 1 s3 fun v57 =>
qSt 1 v57 v55 H fun _ H =>
k [s0, s2, s3, s7, s14, s22, s29, s39, s51, s61] H : R))
noncomputable def r19_22 (C : CallF) (k : KT R) : KT R := fun fr H => opn 10 fr (fun s0 s2 s3 s7 s14 s22 s29 s39 s51 s61 => 
(qRes (C 34 [s0, (.str [123]), (.str [125])] H) fun v69 H =>
qFa 4 s3 fun v70 =>
qSt 1 v70 v69 H fun _ H =>
k [s0, s2, s3, s7, s14, s22, s29, s39, s51, s61] H : R))
noncomputable def r19_21 (C : CallF) (k : KT R) : KT R := fun fr H => opn 10 fr (fun s0 s2 s3 s7 s14 s22 s29 s39 s51 s61 => 
(qRes (C 30 [s0] H) fun v65 H =>
qFa 0 s3 fun v66 =>
qSt 1 v66 (.int .i64 6) H fun _ H =>
qFa 1 s3 fun v67 =>
qSt 1 v67 v65 H fun _ H =>
k [s0, s2, s3, s7, s14, s22, s29, s39, s51, s61] H : R))
noncomputable def r19_2 (C : CallF) (k : KT R) : KT R := fun fr H => opn 10 fr (fun s0 s2 s3 s7 s14 s22 s29 s39 s51 s61 => 
(qRes (C 29 [s0] H) fun v6 H =>
k [s0, s2, s3, s7, s14, s22, s29, s39, s51, s61] H : R))
noncomputable def r19_20 (C : CallF) (k : KT R) : KT R := fun fr H => opn 10 fr (fun s0 s2 s3 s7 s14 s22 s29 s39 s51 s61 => 
(qRes (C 17 [s0, (.int .i64 1), (.str [105,110,112,117,116])] H) fun v63 H =>
k [s0, s2, s3, s7, s14, s22, s29, s39, s51, v63] H : R))
noncomputable def r19_17 (C : CallF) (k : KT R) : KT R := fun fr H => opn 10 fr (fun s0 s2 s3 s7 s14 s22 s29 s39 s51 s61 => 
(qRes (C 17 [s0, (.int .i64 1), (.str [101,110,117,109])] H) fun v53 H =>
k [s0, s2, s3, s7, s14, s22, s29, s39, v53, s61] H : R))
noncomputable def r19_13 (C : CallF) (k : KT R) : KT R := fun fr H => opn 10 fr (fun s0 s2 s3 s7 s14 s22 s29 s39 s51 s61 => 
(qRes (C 17 [s0, (.int .i64 1), (.str [117,110,105,111,110])] H) fun v41 H =>
k [s0, s2, s3, s7, s14, s22, s29, v41, s51, s61] H : R))
noncomputable def r19_10 (C : CallF) (k : KT R) : KT R := fun fr H => opn 10 fr (fun s0 s2 s3 s7 s14 s22 s29 s39 s51 s61 => 
(qRes (C 17 [s0, (.int .i64 1), (.str [105,110,116,101,114,102,97,99,101])] H) fun v31 H =>
k [s0, s2, s3, s7, s14, s22, v31, s39, s51, s61] H : R))
noncomputable def r19_5 (C : CallF) (k : KT R) : KT R := fun fr H => opn 10 fr (fun s0 s2 s3 s7 s14 s22 s29 s39 s51 s61 => 
(qRes (C 17 [s0, (.int .i64 1), (.str [116,121,112,101])] H) fun v16 H =>
k [s0, s2, s3, s7, v16, s22, s29, s39, s51, s61] H : R))
noncomputable def r19_3 (C : CallF) (k : KT R) : KT R := fun fr H => opn 10 fr (fun s0 s2 s3 s7 s14 s22 s29 s39 s51 s61 => 
(qRes (C 17 [s0, (.int .i64 1), (.str [115,99,97,108,97,114])] H) fun v9 H =>
k [s0, s2, s3, v9, s14, s22, s29, s39, s51, s61] H : R))
noncomputable def r19_1 (k : KT R) : KT R := fun fr H => opn 10 fr (fun s0 s2 s3 s7 s14 s22 s29 s39 s51 s61 => 
(qBld z82 [] fun v4 =>
qNew (.cells z82) .ptr H fun v3 H =>
qSt 5 v3 v4 H fun _ H =>
k [s0, s2, v3, s7, s14, s22, s29, s39, s51, s61] H : R))
noncomputable def r19_0 (k : KT R) : KT R := fun fr H => opn 10 fr (fun s0 s2 s3 s7 s14 s22 s29 s39 s51 s61 => 
(qNew (.cells z82) .ptr H fun v2 H =>
k [s0, v2, s3, s7, s14, s22, s29, s39, s51, s61] H : R))
noncomputable def c19 (C : CallF) (l0 : List AV) (H : AH) (k : AV → AH → R) : R := opn 1 l0 (fun x0 => (qFn (fun kr => (r19_0 (r19_1 (qBl (fun k1 => (r19_3 C (qCd (sel 3) (fun k2 => (r19_4 C k2)) (fun k2 => (r19_5 C (qCd (sel 4) (fun k3 => (r19_6 C (r19_7 C (qCd (sel 5) (fun k4 => (r19_8 C k4)) (fun k4 => k4) (r19_9 C k3))))) (fun k3 => (r19_10 C (qCd (sel 6) (fun k5 => (r19_11 C (r19_12 C k5))) (fun k5 => (r19_13 C (qCd (sel 7) (fun k6 => (r19_14 C (r19_15 C (r19_16 C k6)))) (fun k6 => (r19_17 C (qCd (sel 8) (fun k7 => (r19_18 C (r19_19 C k7))) (fun k7 => (r19_20 C (qCd (sel 9) (fun k8 => (r19_21 C (r19_22 C k8))) (fun k8 => (r19_2 C k8)) k7))) k6))) k5))) k3))) k2))) k1))) (r19_23 kr)))))
(fun fr H => qPtr (sel 1 fr) (qLdA 5 (sel 1 fr) H fun w0 => k w0 H)) [x0, Aes.undef, Aes.undef, Aes.undef, Aes.undef, Aes.undef, Aes.undef, Aes.undef, Aes.undef, Aes.undef] H : R))
/- (*refectory/collect.gather).out -/
noncomputable def r20_1 (C : CallF) (k : KT R) : KT R := fun fr H => opn 5 fr (fun s0 s1 s2 s3 s4 => 
(qFa 5 s3 fun v5 =>
qLd v5 H fun v6 =>
qRes (C 35 [v6, (.fn (.func 36) [] [s2])] H) fun v8 H =>
k [s0, s1, s2, s3, v8] H : R))
noncomputable def r20_0 (k : KT R) : KT R := fun fr H => opn 5 fr (fun s0 s1 s2 s3 s4 => 
(qBox s0 H fun v2 H =>
qBox s1 H fun v3 H =>
k [s0, s1, v2, v3, (.bool false)] H : R))
noncomputable def c20 (C : CallF) (l0 : List AV) (H : AH) (k : AV → AH → R) : R := opn 2 l0 (fun x0 x1 => (qFn (fun kr => (r20_0 (r20_1 C kr)))
(fun fr H => k (sel 4 fr) H) [x0, x1, Aes.undef, Aes.undef, Aes.undef] H : R))
/- (*refectory/collect.gather).fits -/
noncomputable def r22_1 (C : CallF) (k : KT R) : KT R := fun fr H => opn 3 fr (fun s0 s1 s4 => 
(qNc s0 fun v6 =>
qFa 0 v6 fun v7 =>
qLdA 3 v7 H fun v8 =>
qNc s0 fun v12 =>
qFa 5 v12 fun v13 =>
qLd v13 H fun v14 =>
qRes (C 39 [v8, s1] H) fun v10 H =>
qLd v13 H fun w => qSame v14 w (qRes (C 38 [v10, v14] H) fun v15 H =>
k [s0, s1, v15] H) : R))
noncomputable def r22_0 (k : KT R) : KT R := fun fr H => opn 3 fr (fun s0 s1 s4 => 
(k [s0, s1, (.bool false)] H : R))
noncomputable def c22 (C : CallF) (l0 : List AV) (H : AH) (k : AV → AH → R) : R := opn 2 l0 (fun x0 x1 => (qFn (fun kr => (r22_0 (r22_1 C kr)))
(fun fr H => k (sel 2 fr) H) [x0, x1, Aes.undef] H : R))
/- refectory/frags.Find -/
noncomputable def r23_4 (k : KT R) : KT R := fun fr H => opn 8 fr (fun s0 s1 s2 s3 s4 s5 s6 s12 => 
(qFa 1 s2 fun v14 =>
qLd v14 H fun v15 =>
qIa 4 v15 s6 fun v17 =>
qLdA 4 v17 H fun v18 =>
qSt 4 s4 v18 H fun _ H =>
k [s0, s1, s2, s3, s4, (.bool true), s6, s12] H : R))
noncomputable def r23_3 (k : KT R) : KT R := fun fr H => opn 8 fr (fun s0 s1 s2 s3 s4 s5 s6 s12 => 
(qBld z90 [] fun v13 =>
qSt 4 s4 v13 H fun _ H =>
k [s0, s1, s2, s3, s4, (.bool false), s6, s12] H : R))
noncomputable def r23_2 (k : KT R) : KT R := fun fr H => opn 8 fr (fun s0 s1 s2 s3 s4 s5 s6 s12 => 
(qLss X 3 s6 (.int .i64 0) fun v12 =>
k [s0, s1, s2, s3, s4, s5, s6, v12] H : R))
noncomputable def r23_1 (C : CallF) (k : KT R) : KT R := fun fr H => opn 8 fr (fun s0 s1 s2 s3 s4 s5 s6 s12 => 
(qFa 1 s2 fun v7 =>
qLd v7 H fun v8 =>
qRes (C 40 [v8, (.fn (.func 41) [] [s3])] H) fun v10 H =>
k [s0, s1, s2, s3, s4, s5, v10, s12] H : R))
noncomputable def r23_0 (k : KT R) : KT R := fun fr H => opn 8 fr (fun s0 s1 s2 s3 s4 s5 s6 s12 => 
(qBox s0 H fun v2 H =>
qBox s1 H fun v3 H =>
qNew (.cells z90) .ptr H fun v4 H =>
k [s0, s1, v2, v3, v4, (.bool false), s6, s12] H : R))
noncomputable def c23 (C : CallF) (l0 : List AV) (H : AH) (k : AV → AH → R) : R := opn 2 l0 (fun x0 x1 => (qFn (fun kr => (r23_0 (r23_1 C (r23_2 (qCd (sel 7) (fun _ => (r23_3 kr)) (fun k1 => k1) (r23_4 kr))))))
(fun fr H => qPtr (sel 4 fr) (qLdA 4 (sel 4 fr) H fun w0 => k (.tup [w0, (sel 5 fr)]) H)) [x0, x1, Aes.undef, Aes.undef, Aes.undef, Aes.undef, Aes.undef, Aes.undef] H : R))
/- refectory/refectoryref06.def -/
noncomputable def r24_2 (C : CallF) (k : KT R) : KT R := fun fr H => opn 10 fr (fun s0 s1 s4 s5 s8 s23 s36 s59 s63 s71 => 
(qNc s1 fun v13 =>
qFa 0 v13 fun v14 =>
qLd v14 H fun v15 =>
qRes (C 42 [s0, (.int .i64 1)] H) fun v17 H =>
qLd v14 H fun w => qSame v15 w (qBld z68 [(4, 1, v17)] fun v18 =>
qRows z68 1 [(0, v18)] fun v19 =>
qApp 5 96 v15 v19 false none H fun v20 H =>
qNc s1 fun v21 =>
qFa 0 v21 fun v22 =>
qSt 1 v22 v20 H fun _ H =>
k [s0, s1, s4, s5, s8, s23, s36, s59, s63, s71] H) : R))
noncomputable def r24_10 (k : KT R) : KT R := fun fr H => opn 10 fr (fun s0 s1 s4 s5 s8 s23 s36 s59 s63 s71 => 
(qNc s1 fun v51 =>
qFa 0 v51 fun v52 =>
qLd v52 H fun v53 =>
qLdA 5 s4 H fun v54 =>
qRows z68 1 [(0, v54)] fun v55 =>
qApp 5 96 v53 v55 false none H fun v56 H =>
qNc s1 fun v57 =>
qFa 0 v57 fun v58 =>
qSt 1 v58 v56 H fun _ H =>
k [s0, s1, s4, s5, s8, s23, s36, s59, s63, s71] H : R))
noncomputable def r24_9 (C : CallF) (k : KT R) : KT R := fun fr H => opn 10 fr (fun s0 s1 s4 s5 s8 s23 s36 s59 s63 s71 => 
(qRes (C 42 [s0, (.int .i64 1)] H) fun v47 H =>
qFa 4 s4 fun v48 =>
qSt 1 v48 v47 H fun _ H =>
k [s0, s1, s4, s5, s8, s23, s36, s59, s63, s71] H : R))
noncomputable def r24_8 (C : CallF) (k : KT R) : KT R := fun fr H => opn 10 fr (fun s0 s1 s4 s5 s8 s23 s36 s59 s63 s71 => 
(qRes (C 44 [s0] H) fun v44 H =>
qFa 3 s4 fun v45 =>
qSt 1 v45 v44 H fun _ H =>
k [s0, s1, s4, s5, s8, s23, s36, s59, s63, s71] H : R))
noncomputable def r24_7 (C : CallF) (k : KT R) : KT R := fun fr H => opn 10 fr (fun s0 s1 s4 s5 s8 s23 s36 s59 s63 s71 => 
(qRes (C 43 [s0] H) fun v41 H =>
qFa 2 s4 fun v42 =>
qSt 1 v42 v41 H fun _ H =>
k [s0, s1, s4, s5, s8, s23, s36, s59, s63, s71] H : R))
noncomputable def r24_6 (C : CallF) (k : KT R) : KT R := fun fr H => opn 10 fr (fun s0 s1 s4 s5 s8 s23 s36 s59 s63 s71 => 
(qRes (C 30 [s0] H) fun v38 H =>
qFa 1 s4 fun v39 =>
qSt 1 v39 v38 H fun _ H =>
k [s0, s1, s4, s5, s8, s23, s36, s59, s63, s71] H : R))
noncomputable def r24_5 (C : CallF) (k : KT R) : KT R := fun fr H => opn 10 fr (fun s0 s1 s4 s5 s8 s23 s36 s59 s63 s71 => 
(qRes (C 26 [s0] H) fun v35 H =>
qEql X 3 v35 (.int .i64 1) fun v36 =>
k [s0, s1, s4, s5, s8, s23, v36, s59, s63, s71] H : R))
noncomputable def r24_4 (C : CallF) (k : KT R) : KT R := fun fr H => opn 10 fr (fun s0 s1 s4 s5 s8 s23 s36 s59 s63 s71 => 
(qRes (C 30 [s0] H) fun v31 H =>
qEql X 9 v31 (.str [109,117,116,97,116,105,111,110]) fun v32 =>
qBld z68 [(0, 1, v32)] fun v33 =>
qNew (.cells z68) .ptr H fun v4 H =>
qSt 5 v4 v33 H fun _ H =>
k [s0, s1, v4, s5, s8, s23, s36, s59, s63, s71] H : R))
noncomputable def r24_20 (k : KT R) : KT R := fun fr H => opn 10 fr (fun s0 s1 s4 s5 s8 s23 s36 s59 s63 s71 => 
(qNc s1 fun v85 =>
qFa 1 v85 fun v86 =>
qLd v86 H fun v87 =>
qLdA 4 s5 H fun v88 =>
qRows z90 1 [(0, v88)] fun v89 =>
qApp 4 80 v87 v89 false none H fun v90 H =>
qNc s1 fun v91 =>
qFa 1 v91 fun v92 =>
qSt 1 v92 v90 H fun _ H =>
k [s0, s1, s4, s5, s8, s23, s36, s59, s63, s71] H : R))
noncomputable def r24_19 (C : CallF) (k : KT R) : KT R := fun fr H => opn 10 fr (fun s0 s1 s4 s5 s8 s23 s36 s59 s63 s71 => 
(qRes (C 42 [s0, (.int .i64 1)] H) fun v81 H =>
qFa 3 s5 fun v82 =>
qSt 1 v82 v81 H fun _ H =>
k [s0, s1, s4, s5, s8, s23, s36, s59, s63, s71] H : R))
noncomputable def r24_18 (C : CallF) (k : KT R) : KT R := fun fr H => opn 10 fr (fun s0 s1 s4 s5 s8 s23 s36 s59 s63 s71 => 
(qRes (C 44 [s0] H) fun v78 H =>
qFa 2 s5 fun v79 =>
qSt 1 v79 v78 H fun _ H =>
k [s0, s1, s4, s5, s8, s23, s36, s59, s63, s71] H : R))
noncomputable def r24_17 (C : CallF) (k : KT R) : KT R := fun fr H => opn 10 fr (fun s0 s1 s4 s5 s8 s23 s36 s59 s63 s71 => 
(qRes (C 30 [s0] H) fun v75 H =>
qFa 1 s5 fun v76 =>
qSt 1 v76 v75 H fun _ H =>
k [s0, s1, s4, s5, s8, s23, s36, s59, s63, s71] H : R))
noncomputable def r24_16 (C : CallF) (k : KT R) : KT R := fun fr H => opn 10 fr (fun s0 s1 s4 s5 s8 s23 s36 s59 s63 s71 => 
(qRes (C 29 [s0] H) fun v73 H =>
k [s0, s1, s4, s5, s8, s23, s36, s59, s63, s71] H : R))
noncomputable def r24_15 (C : CallF) (k : KT R) : KT R := fun fr H => opn 10 fr (fun s0 s1 s4 s5 s8 s23 s36 s59 s63 s71 => 
(qRes (C 17 [s0, (.int .i64 1), (.str [111,110])] H) fun v70 H =>
qNot v70 fun v71 =>
k [s0, s1, s4, s5, s8, s23, s36, s59, s63, v71] H : R))
noncomputable def r24_14 (C : CallF) (k : KT R) : KT R := fun fr H => opn 10 fr (fun s0 s1 s4 s5 s8 s23 s36 s59 s63 s71 => 
(qRes (C 30 [s0] H) fun v67 H =>
qBld z90 [(0, 1, v67)] fun v68 =>
qNew (.cells z90) .ptr H fun v5 H =>
qSt 4 v5 v68 H fun _ H =>
k [s0, s1, s4, v5, s8, s23, s36, s59, s63, s71] H : R))
noncomputable def r24_13 (C : CallF) (k : KT R) : KT R := fun fr H => opn 10 fr (fun s0 s1 s4 s5 s8 s23 s36 s59 s63 s71 => 
(qRes (C 29 [s0] H) fun v65 H =>
k [s0, s1, s4, s5, s8, s23, s36, s59, s63, s71] H : R))
noncomputable def r24_12 (C : CallF) (k : KT R) : KT R := fun fr H => opn 10 fr (fun s0 s1 s4 s5 s8 s23 s36 s59 s63 s71 => 
(qRes (C 27 [s0, (.int .i64 1), (.str [111,110])] H) fun v63 H =>
k [s0, s1, s4, s5, s8, s23, s36, s59, v63, s71] H : R))
noncomputable def r24_0 (C : CallF) (k : KT R) : KT R := fun fr H => opn 10 fr (fun s0 s1 s4 s5 s8 s23 s36 s59 s63 s71 => 
(qRes (C 29 [s0] H) fun v7 H =>
k [s0, s1, s4, s5, s8, s23, s36, s59, s63, s71] H : R))
noncomputable def r24_11 (C : CallF) (k : KT R) : KT R := fun fr H => opn 10 fr (fun s0 s1 s4 s5 s8 s23 s36 s59 s63 s71 => 
(qRes (C 17 [s0, (.int .i64 1), (.str [102,114,97,103,109,101,110,116])] H) fun v61 H =>
k [s0, s1, s4, s5, s8, s23, s36, v61, s63, s71] H : R))
noncomputable def r24_3 (C : CallF) (k : KT R) : KT R := fun fr H => opn 10 fr (fun s0 s1 s4 s5 s8 s23 s36 s59 s63 s71 => 
(qRes (C 27 [s0, (.int .i64 1), (.str [113,117,101,114,121])] H) fun v25 H =>
qG v25 false (fun k => k s0 H) H fun v27 H =>
qG v25 false (fun k => qRes (C 27 [v27, (.int .i64 1), (.str [109,117,116,97,116,105,111,110])] H) k) H fun v28 H =>
qPick v25 (.bool true) v28 fun v29 =>
k [s0, s1, s4, s5, s8, v29, s36, s59, s63, s71] H : R))
noncomputable def r24_1 (C : CallF) (k : KT R) : KT R := fun fr H => opn 10 fr (fun s0 s1 s4 s5 s8 s23 s36 s59 s63 s71 => 
(qRes (C 27 [s0, (.int .i64 5), (.str [123])] H) fun v10 H =>
k [s0, s1, s4, s5, v10, s23, s36, s59, s63, s71] H : R))
noncomputable def c24 (C : CallF) (l0 : List AV) (H : AH) (k : AV → AH → R) : R := opn 2 l0 (fun x0 x1 => (qFn (fun kr => (qBl (fun k1 => (r24_1 C (qCd (sel 4) (fun k2 => (r24_2 C k2)) (fun k2 => (r24_3 C (qCd (sel 5) (fun k3 => (r24_4 C (r24_5 C (qCd (sel 6) (fun k4 => (r24_6 C k4)) (fun k4 => k4) (r24_7 C (r24_8 C (r24_9 C (r24_10 k3)))))))) (fun k3 => (r24_11 C (qCd (sel 7) (fun k5 => (r24_12 C (qCd (sel 8) (fun k7 => (r24_13 C k7)) (fun k7 => k7) (r24_14 C (r24_15 C (qCd (sel 9) (fun k6 => (r24_16 C k6)) (fun k6 => k6) (r24_17 C (r24_18 C (r24_19 C (r24_20 k5)))))))))) (fun k5 => (r24_0 C k5)) k3))) k2))) k1))) kr))
(fun fr H => k (.tup []) H) [x0, x1, Aes.undef, Aes.undef, Aes.undef, Aes.undef, Aes.undef, Aes.undef, Aes.undef, Aes.undef] H : R))
/- refectory/refectoryref04.one -/
noncomputable def r25_24 (k : KT R) : KT R := fun fr H => opn 22 fr (fun s0 s1 s4 s5 s6 s7 s8 s9 s10 s11 s12 s13 s14 s19 s37 s51 s67 s78 s95 s110 s129 s135 => 
(qBld z85 [] fun v145 =>
qSt 3 s4 v145 H fun _ H =>
k [s0, s1, s4, s1, (.bool false), s7, s8, s9, s10, s11, s12, s13, s14, s19, s37, s51, s67, s78, s95, s110, s129, s135] H : R))
noncomputable def r25_21 (k : KT R) : KT R := fun fr H => opn 22 fr (fun s0 s1 s4 s5 s6 s7 s8 s9 s10 s11 s12 s13 s14 s19 s37 s51 s67 s78 s95 s110 s129 s135 => 
(qAdd X 3 s14 (.int .i64 1) fun v131 =>
k [s0, s1, s4, s5, s6, s7, s8, s9, s10, s11, s12, s13, v131, s19, s37, s51, s67, s78, s95, s110, s129, s135] H : R))
noncomputable def r25_23 (k : KT R) : KT R := fun fr H => opn 22 fr (fun s0 s1 s4 s5 s6 s7 s8 s9 s10 s11 s12 s13 s14 s19 s37 s51 s67 s78 s95 s110 s129 s135 => 
(qAdd X 3 s1 (.int .i64 1) fun v139 =>
qSlc Try.t9.desc 0 s0 (some s1) (some v139) none fun v140 =>
qBld z85 [(0, 1, (.int .i64 5)), (1, 1, v140), (2, 1, s1)] fun v142 =>
qAdd X 3 s1 (.int .i64 1) fun v144 =>
qSt 3 s4 v142 H fun _ H =>
k [s0, s1, s4, v144, (.bool true), s7, s8, s9, s10, s11, s12, s13, s14, s19, s37, s51, s67, s78, s95, s110, s129, s135] H : R))
noncomputable def r25_22 (k : KT R) : KT R := fun fr H => opn 22 fr (fun s0 s1 s4 s5 s6 s7 s8 s9 s10 s11 s12 s13 s14 s19 s37 s51 s67 s78 s95 s110 s129 s135 => 
(qIx (.str [33,36,38,40,41,58,61,64,91,93,123,124,125]) s14 fun v133 =>
qEql X 5 v133 s7 fun v135 =>
k [s0, s1, s4, s5, s6, s7, s8, s9, s10, s11, s12, s13, s14, s19, s37, s51, s67, s78, s95, s110, s129, v135] H : R))
noncomputable def r25_20 (k : KT R) : KT R := fun fr H => opn 22 fr (fun s0 s1 s4 s5 s6 s7 s8 s9 s10 s11 s12 s13 s14 s19 s37 s51 s67 s78 s95 s110 s129 s135 => 
(qLss X 3 s14 (.int .i64 13) fun v129 =>
k [s0, s1, s4, s5, s6, s7, s8, s9, s10, s11, s12, s13, s14, s19, s37, s51, s67, s78, s95, s110, v129, s135] H : R))
noncomputable def l25_5 (k1 : KT R) (kr : KT R) : KT R → KT R := fun k2 => (r25_20 (qCd (sel 20) (fun k5 => k5) (fun _ => k1) (qBl (fun k3 => (r25_22 (qCd (sel 21) (fun _ => (r25_23 kr)) (fun k4 => k4) k3))) (r25_21 k2))))
noncomputable def r25_19 (k : KT R) : KT R := fun fr H => opn 22 fr (fun s0 s1 s4 s5 s6 s7 s8 s9 s10 s11 s12 s13 s14 s19 s37 s51 s67 s78 s95 s110 s129 s135 => 
(k [s0, s1, s4, s5, s6, s7, s8, s9, s10, s11, s12, s13, (.int .i64 0), s19, s37, s51, s67, s78, s95, s110, s129, s135] H : R))
noncomputable def r25_6 (k : KT R) : KT R := fun fr H => opn 22 fr (fun s0 s1 s4 s5 s6 s7 s8 s9 s10 s11 s12 s13 s14 s19 s37 s51 s67 s78 s95 s110 s129 s135 => 
(qSlc Try.t9.desc 0 s0 (some s1) (some s8) none fun v43 =>
qBld z85 [(0, 1, (.int .i64 1)), (1, 1, v43), (2, 1, s1)] fun v45 =>
qSub X 3 s8 s1 fun v49 =>
qLeq X 3 v49 (.int .i64 40) fun v50 =>
qSt 3 s4 v45 H fun _ H =>
k [s0, s1, s4, s8, v50, s7, s8, s9, s10, s11, s12, s13, s14, s19, s37, s51, s67, s78, s95, s110, s129, s135] H : R))
noncomputable def r25_5 (k : KT R) : KT R := fun fr H => opn 22 fr (fun s0 s1 s4 s5 s6 s7 s8 s9 s10 s11 s12 s13 s14 s19 s37 s51 s67 s78 s95 s110 s129 s135 => 
(qAdd X 3 s8 (.int .i64 1) fun v39 =>
k [s0, s1, s4, s5, s6, s7, v39, s9, s10, s11, s12, s13, s14, s19, s37, s51, s67, s78, s95, s110, s129, s135] H : R))
noncomputable def r25_4 (C : CallF) (k : KT R) : KT R := fun fr H => opn 22 fr (fun s0 s1 s4 s5 s6 s7 s8 s9 s10 s11 s12 s13 s14 s19 s37 s51 s67 s78 s95 s110 s129 s135 => 
(qLenS s0 fun v24 =>
qLss X 3 s8 v24 fun v25 =>
qG v25 true (fun k => k s0 H) H fun v27 H =>
qG v25 true (fun k => k s8 H) H fun v28 H =>
qG v25 true (fun k => qIx v27 v28 fun v => k v H) H fun v29 H =>
qG v25 true (fun k => qRes (C 45 [v29] H) k) H fun v30 H =>
qG v25 true (fun k => k v30 H) H fun v31 H =>
qG v31 false (fun k => k s0 H) H fun v32 H =>
qG v31 false (fun k => k s8 H) H fun v33 H =>
qG v31 false (fun k => qIx v32 v33 fun v => k v H) H fun v34 H =>
qG v31 false (fun k => qRes (C 46 [v34] H) k) H fun v35 H =>
qG v25 true (fun k => qPick v31 (.bool true) v35 fun v => k v H) H fun v36 H =>
qPick v25 v36 (.bool false) fun v37 =>
k [s0, s1, s4, s5, s6, s7, s8, s9, s10, s11, s12, s13, s14, s19, v37, s51, s67, s78, s95, s110, s129, s135] H : R))
noncomputable def l25_11 (C : CallF) (k8 : KT R) : KT R → KT R := fun k9 => (r25_4 C (qCd (sel 14) (fun k11 => k11) (fun _ => k8) (qBl (fun k10 => (r25_5 k10)) k9)))
noncomputable def r25_13 (k : KT R) : KT R := fun fr H => opn 22 fr (fun s0 s1 s4 s5 s6 s7 s8 s9 s10 s11 s12 s13 s14 s19 s37 s51 s67 s78 s95 s110 s129 s135 => 
(qSlc Try.t9.desc 0 s0 (some s1) (some s8) none fun v90 =>
qBld z85 [(0, 1, (.int .i64 3)), (1, 1, v90), (2, 1, s1)] fun v92 =>
qSt 3 s4 v92 H fun _ H =>
k [s0, s1, s4, s8, s10, s7, s8, s9, s10, s11, s12, s13, s14, s19, s37, s51, s67, s78, s95, s110, s129, s135] H : R))
noncomputable def r25_12 (k : KT R) : KT R := fun fr H => opn 22 fr (fun s0 s1 s4 s5 s6 s7 s8 s9 s10 s11 s12 s13 s14 s19 s37 s51 s67 s78 s95 s110 s129 s135 => 
(qSlc Try.t9.desc 0 s0 (some s1) (some s8) none fun v82 =>
qBld z85 [(0, 1, (.int .i64 2)), (1, 1, v82), (2, 1, s1)] fun v84 =>
qSt 3 s4 v84 H fun _ H =>
k [s0, s1, s4, s8, s10, s7, s8, s9, s10, s11, s12, s13, s14, s19, s37, s51, s67, s78, s95, s110, s129, s135] H : R))
noncomputable def r25_11 (k : KT R) : KT R := fun fr H => opn 22 fr (fun s0 s1 s4 s5 s6 s7 s8 s9 s10 s11 s12 s13 s14 s19 s37 s51 s67 s78 s95 s110 s129 s135 => 
(k [s0, s1, s4, s5, s6, s7, s8, s9, s10, s11, s12, s13, s14, s19, s37, s51, s67, s9, s95, s110, s129, s135] H : R))
noncomputable def r25_10 (C : CallF) (k : KT R) : KT R := fun fr H => opn 22 fr (fun s0 s1 s4 s5 s6 s7 s8 s9 s10 s11 s12 s13 s14 s19 s37 s51 s67 s78 s95 s110 s129 s135 => 
(qSlc Try.t9.desc 0 s0 (some s1) (some s8) none fun v74 =>
qRes (C 48 [v74] H) fun v75 H =>
qExt v75 0 fun v76 =>
qExt v75 1 fun v77 =>
k [s0, s1, s4, s5, s6, s7, s8, v76, v77, s11, s12, s13, s14, s19, s37, s51, s67, s78, s95, s110, s129, s135] H : R))
noncomputable def r25_9 (k : KT R) : KT R := fun fr H => opn 22 fr (fun s0 s1 s4 s5 s6 s7 s8 s9 s10 s11 s12 s13 s14 s19 s37 s51 s67 s78 s95 s110 s129 s135 => 
(qAdd X 3 s8 (.int .i64 1) fun v69 =>
k [s0, s1, s4, s5, s6, s7, v69, s9, s10, s11, s12, s13, s14, s19, s37, s51, s67, s78, s95, s110, s129, s135] H : R))
noncomputable def r25_8 (C : CallF) (k : KT R) : KT R := fun fr H => opn 22 fr (fun s0 s1 s4 s5 s6 s7 s8 s9 s10 s11 s12 s13 s14 s19 s37 s51 s67 s78 s95 s110 s129 s135 => 
(qLenS s0 fun v60 =>
qLss X 3 s8 v60 fun v61 =>
qG v61 true (fun k => k s0 H) H fun v63 H =>
qG v61 true (fun k => k s8 H) H fun v64 H =>
qG v61 true (fun k => qIx v63 v64 fun v => k v H) H fun v65 H =>
qG v61 true (fun k => qRes (C 47 [v65] H) k) H fun v66 H =>
qPick v61 v66 (.bool false) fun v67 =>
k [s0, s1, s4, s5, s6, s7, s8, s9, s10, s11, s12, s13, s14, s19, s37, s51, v67, s78, s95, s110, s129, s135] H : R))
noncomputable def l25_17 (C : CallF) (k14 : KT R) : KT R → KT R := fun k15 => (r25_8 C (qCd (sel 16) (fun k17 => k17) (fun _ => k14) (qBl (fun k16 => (r25_9 k16)) k15)))
noncomputable def r25_16 (k : KT R) : KT R := fun fr H => opn 22 fr (fun s0 s1 s4 s5 s6 s7 s8 s9 s10 s11 s12 s13 s14 s19 s37 s51 s67 s78 s95 s110 s129 s135 => 
(qBld z85 [(0, 1, (.int .i64 4)), (1, 1, s11), (2, 1, s1)] fun v107 =>
qSt 3 s4 v107 H fun _ H =>
k [s0, s1, s4, s12, s13, s7, s8, s9, s10, s11, s12, s13, s14, s19, s37, s51, s67, s78, s95, s110, s129, s135] H : R))
noncomputable def r25_15 (C : CallF) (k : KT R) : KT R := fun fr H => opn 22 fr (fun s0 s1 s4 s5 s6 s7 s8 s9 s10 s11 s12 s13 s14 s19 s37 s51 s67 s78 s95 s110 s129 s135 => 
(qRes (C 49 [s0, s1] H) fun v101 H =>
qExt v101 0 fun v102 =>
qExt v101 1 fun v103 =>
qExt v101 2 fun v104 =>
k [s0, s1, s4, s5, s6, s7, s8, s9, s10, v102, v103, v104, s14, s19, s37, s51, s67, s78, s95, s110, s129, s135] H : R))
noncomputable def r25_18 (k : KT R) : KT R := fun fr H => opn 22 fr (fun s0 s1 s4 s5 s6 s7 s8 s9 s10 s11 s12 s13 s14 s19 s37 s51 s67 s78 s95 s110 s129 s135 => 
(qBld z85 [(0, 1, (.int .i64 5)), (1, 1, (.str [46,46,46])), (2, 1, s1)] fun v125 =>
qAdd X 3 s1 (.int .i64 3) fun v127 =>
qSt 3 s4 v125 H fun _ H =>
k [s0, s1, s4, v127, (.bool true), s7, s8, s9, s10, s11, s12, s13, s14, s19, s37, s51, s67, s78, s95, s110, s129, s135] H : R))
noncomputable def r25_17 (k : KT R) : KT R := fun fr H => opn 22 fr (fun s0 s1 s4 s5 s6 s7 s8 s9 s10 s11 s12 s13 s14 s19 s37 s51 s67 s78 s95 s110 s129 s135 => 
(qLenS s0 fun v112 =>
qSub X 3 v112 s1 fun v114 =>
qGeq X 3 v114 (.int .i64 3) fun v115 =>
qG v115 true (fun k => k s0 H) H fun v117 H =>
qG v115 true (fun k => k s1 H) H fun v118 H =>
qG v115 true (fun k => k s1 H) H fun v119 H =>
qG v115 true (fun k => qAdd X 3 v119 (.int .i64 3) fun v => k v H) H fun v120 H =>
qG v115 true (fun k => qSlc Try.t9.desc 0 v117 (some v118) (some v120) none fun v => k v H) H fun v121 H =>
qG v115 true (fun k => qEql X 9 v121 (.str [46,46,46]) fun v => k v H) H fun v122 H =>
qPick v115 v122 (.bool false) fun v123 =>
k [s0, s1, s4, s5, s6, s7, s8, s9, s10, s11, s12, s13, s14, s19, s37, s51, s67, s78, s95, v123, s129, s135] H : R))
noncomputable def r25_14 (k : KT R) : KT R := fun fr H => opn 22 fr (fun s0 s1 s4 s5 s6 s7 s8 s9 s10 s11 s12 s13 s14 s19 s37 s51 s67 s78 s95 s110 s129 s135 => 
(qEql X 5 s7 (.int .u8 34) fun v97 =>
k [s0, s1, s4, s5, s6, s7, s8, s9, s10, s11, s12, s13, s14, s19, s37, s51, s67, s78, v97, s110, s129, s135] H : R))
noncomputable def r25_7 (C : CallF) (k : KT R) : KT R := fun fr H => opn 22 fr (fun s0 s1 s4 s5 s6 s7 s8 s9 s10 s11 s12 s13 s14 s19 s37 s51 s67 s78 s95 s110 s129 s135 => 
(qEql X 5 s7 (.int .u8 45) fun v53 =>
qG v53 false (fun k => k s7 H) H fun v55 H =>
qG v53 false (fun k => qRes (C 46 [v55] H) k) H fun v56 H =>
qPick v53 (.bool true) v56 fun v57 =>
k [s0, s1, s4, s5, s6, s7, s8, s9, s10, s11, s12, s13, s14, s19, s37, v57, s67, s78, s95, s110, s129, s135] H : R))
noncomputable def r25_3 (C : CallF) (k : KT R) : KT R := fun fr H => opn 22 fr (fun s0 s1 s4 s5 s6 s7 s8 s9 s10 s11 s12 s13 s14 s19 s37 s51 s67 s78 s95 s110 s129 s135 => 
(qRes (C 45 [s7] H) fun v21 H =>
k [s0, s1, s4, s5, s6, s7, s8, s9, s10, s11, s12, s13, s14, v21, s37, s51, s67, s78, s95, s110, s129, s135] H : R))
noncomputable def r25_2 (k : KT R) : KT R := fun fr H => opn 22 fr (fun s0 s1 s4 s5 s6 s7 s8 s9 s10 s11 s12 s13 s14 s19 s37 s51 s67 s78 s95 s110 s129 s135 => 
(k [s0, s1, s4, s5, s6, s7, s1, s9, s10, s11, s12, s13, s14, s19, s37, s51, s67, s78, s95, s110, s129, s135] H : R))
noncomputable def r25_1 (k : KT R) : KT R := fun fr H => opn 22 fr (fun s0 s1 s4 s5 s6 s7 s8 s9 s10 s11 s12 s13 s14 s19 s37 s51 s67 s78 s95 s110 s129 s135 => 
(qIx s0 s1 fun v17 =>
k [s0, s1, s4, s5, s6, v17, s8, s9, s10, s11, s12, s13, s14, s19, s37, s51, s67, s78, s95, s110, s129, s135] H : R))
noncomputable def r25_0 (k : KT R) : KT R := fun fr H => opn 22 fr (fun s0 s1 s4 s5 s6 s7 s8 s9 s10 s11 s12 s13 s14 s19 s37 s51 s67 s78 s95 s110 s129 s135 => 
(qNew (.cells z85) .ptr H fun v4 H =>
k [s0, s1, v4, (.int .i64 0), (.bool false), s7, s8, s9, s10, s11, s12, s13, s14, s19, s37, s51, s67, s78, s95, s110, s129, s135] H : R))
noncomputable def c25 (C : CallF) (l0 : List AV) (H : AH) (k : AV → AH → R) : R := opn 2 l0 (fun x0 x1 => (qFn (fun kr => (r25_0 (r25_1 (r25_2 (qBl (fun k6 => (r25_3 C (qCd (sel 13) (fun _ => (qBl (fun k8 => (qLoop (l25_11 C k8))) (r25_6 kr))) (fun k7 => (r25_7 C (qCd (sel 15) (fun _ => (qBl (fun k14 => (qLoop (l25_17 C k14))) (r25_10 C (r25_11 (qCd (sel 17) (fun _ => (r25_12 kr)) (fun k13 => k13) (r25_13 kr)))))) (fun k12 => (r25_14 (qCd (sel 18) (fun _ => (r25_15 C (r25_16 kr))) (fun k18 => (r25_17 (qCd (sel 19) (fun _ => (r25_18 kr)) (fun k19 => k19) k18))) k12))) k7))) k6))) (r25_19 (qBl (fun k1 => (qLoop (l25_5 k1 kr))) (r25_24 kr))))))))
(fun fr H => qPtr (sel 2 fr) (qLdA 3 (sel 2 fr) H fun w0 => k (.tup [w0, (sel 3 fr), (sel 4 fr)]) H)) [x0, x1, Aes.undef, Aes.undef, Aes.undef, Aes.undef, Aes.undef, Aes.undef, Aes.undef, Aes.undef, Aes.undef, Aes.undef, Aes.undef, Aes.undef, Aes.undef, Aes.undef, Aes.undef, Aes.undef, Aes.undef, Aes.undef, Aes.undef, Aes.undef] H : R))
/- (*refectory/refectoryref05.P).Kind -/
noncomputable def r26_3 (k : KT R) : KT R := fun fr H => opn 3 fr (fun s0 s2 s26 => 
(qNc s0 fun v28 =>
qFa 0 v28 fun v29 =>
qLd v29 H fun v30 =>
qNc s0 fun v32 =>
qFa 1 v32 fun v33 =>
qLd v33 H fun v34 =>
qIa 3 v30 v34 fun v35 =>
qFa 0 v35 fun v36 =>
qLd v36 H fun v37 =>
k [s0, v37, s26] H : R))
noncomputable def r26_2 (k : KT R) : KT R := fun fr H => opn 3 fr (fun s0 s2 s26 => 
(k [s0, (.int .i64 0), s26] H : R))
noncomputable def r26_1 (k : KT R) : KT R := fun fr H => opn 3 fr (fun s0 s2 s26 => 
(qNc s0 fun v4 =>
qFa 2 v4 fun v5 =>
qLd v5 H fun v6 =>
qNeq X 56 v6 (.int .i64 0) fun v7 =>
qG v7 false (fun k => k s0 H) H fun v9 H =>
qG v7 false (fun k => qNc v9 fun v => k v H) H fun v10 H =>
qG v7 false (fun k => qFa 1 v10 fun v => k v H) H fun v11 H =>
qG v7 false (fun k => qLd v11 H fun v => k v H) H fun v12 H =>
qG v7 false (fun k => qLss X 3 v12 (.int .i64 0) fun v => k v H) H fun v13 H =>
qPick v7 (.bool true) v13 fun v14 =>
qG v14 false (fun k => k s0 H) H fun v16 H =>
qG v14 false (fun k => qNc v16 fun v => k v H) H fun v17 H =>
qG v14 false (fun k => qFa 1 v17 fun v => k v H) H fun v18 H =>
qG v14 false (fun k => qLd v18 H fun v => k v H) H fun v19 H =>
qG v14 false (fun k => k s0 H) H fun v20 H =>
qG v14 false (fun k => qNc v20 fun v => k v H) H fun v21 H =>
qG v14 false (fun k => qFa 0 v21 fun v => k v H) H fun v22 H =>
qG v14 false (fun k => qLd v22 H fun v => k v H) H fun v23 H =>
qG v14 false (fun k => qLenL v23 fun v => k v H) H fun v24 H =>
qG v14 false (fun k => qGeq X 3 v19 v24 fun v => k v H) H fun v25 H =>
qPick v14 (.bool true) v25 fun v26 =>
k [s0, s2, v26] H : R))
noncomputable def r26_0 (k : KT R) : KT R := fun fr H => opn 3 fr (fun s0 s2 s26 => 
(k [s0, (.int .i64 0), s26] H : R))
noncomputable def c26 (C : CallF) (l0 : List AV) (H : AH) (k : AV → AH → R) : R := opn 1 l0 (fun x0 => (qFn (fun kr => (r26_0 (r26_1 (qCd (sel 2) (fun _ => (r26_2 kr)) (fun k1 => k1) (r26_3 kr)))))
(fun fr H => k (sel 1 fr) H) [x0, Aes.undef, Aes.undef] H : R))
/- (*refectory/refectoryref05.P).Is -/
noncomputable def r27_1 (k : KT R) : KT R := fun fr H => opn 4 fr (fun s0 s1 s2 s6 => 
(qNc s0 fun v8 =>
qFa 2 v8 fun v9 =>
qLd v9 H fun v10 =>
qEql X 56 v10 (.int .i64 0) fun v11 =>
qG v11 true (fun k => k s0 H) H fun v13 H =>
qG v11 true (fun k => qNc v13 fun v => k v H) H fun v14 H =>
qG v11 true (fun k => qFa 1 v14 fun v => k v H) H fun v15 H =>
qG v11 true (fun k => qLd v15 H fun v => k v H) H fun v16 H =>
qG v11 true (fun k => qGeq X 3 v16 (.int .i64 0) fun v => k v H) H fun v17 H =>
qPick v11 v17 (.bool false) fun v18 =>
qG v18 true (fun k => k s0 H) H fun v20 H =>
qG v18 true (fun k => qNc v20 fun v => k v H) H fun v21 H =>
qG v18 true (fun k => qFa 1 v21 fun v => k v H) H fun v22 H =>
qG v18 true (fun k => qLd v22 H fun v => k v H) H fun v23 H =>
qG v18 true (fun k => k s0 H) H fun v24 H =>
qG v18 true (fun k => qNc v24 fun v => k v H) H fun v25 H =>
qG v18 true (fun k => qFa 0 v25 fun v => k v H) H fun v26 H =>
qG v18 true (fun k => qLd v26 H fun v => k v H) H fun v27 H =>
qG v18 true (fun k => qLenL v27 fun v => k v H) H fun v28 H =>
qG v18 true (fun k => qLss X 3 v23 v28 fun v => k v H) H fun v29 H =>
qPick v18 v29 (.bool false) fun v30 =>
qG v30 true (fun k => k s0 H) H fun v32 H =>
qG v30 true (fun k => qNc v32 fun v => k v H) H fun v33 H =>
qG v30 true (fun k => qFa 0 v33 fun v => k v H) H fun v34 H =>
qG v30 true (fun k => qLd v34 H fun v => k v H) H fun v35 H =>
qG v30 true (fun k => k s0 H) H fun v36 H =>
qG v30 true (fun k => qNc v36 fun v => k v H) H fun v37 H =>
qG v30 true (fun k => qFa 1 v37 fun v => k v H) H fun v38 H =>
qG v30 true (fun k => qLd v38 H fun v => k v H) H fun v39 H =>
qG v30 true (fun k => qIa 3 v35 v39 fun v => k v H) H fun v40 H =>
qG v30 true (fun k => qFa 0 v40 fun v => k v H) H fun v41 H =>
qG v30 true (fun k => qLd v41 H fun v => k v H) H fun v42 H =>
qG v30 true (fun k => k s1 H) H fun v43 H =>
qG v30 true (fun k => qEql X 3 v42 v43 fun v => k v H) H fun v44 H =>
qPick v30 v44 (.bool false) fun v45 =>
qG v45 true (fun k => k s0 H) H fun v47 H =>
qG v45 true (fun k => qNc v47 fun v => k v H) H fun v48 H =>
qG v45 true (fun k => qFa 0 v48 fun v => k v H) H fun v49 H =>
qG v45 true (fun k => qLd v49 H fun v => k v H) H fun v50 H =>
qG v45 true (fun k => k s0 H) H fun v51 H =>
qG v45 true (fun k => qNc v51 fun v => k v H) H fun v52 H =>
qG v45 true (fun k => qFa 1 v52 fun v => k v H) H fun v53 H =>
qG v45 true (fun k => qLd v53 H fun v => k v H) H fun v54 H =>
qG v45 true (fun k => qIa 3 v50 v54 fun v => k v H) H fun v55 H =>
qG v45 true (fun k => qFa 1 v55 fun v => k v H) H fun v56 H =>
qG v45 true (fun k => qLd v56 H fun v => k v H) H fun v57 H =>
qG v45 true (fun k => k s2 H) H fun v58 H =>
qG v45 true (fun k => qEql X 9 v57 v58 fun v => k v H) H fun v59 H =>
qPick v45 v59 (.bool false) fun v60 =>
k [s0, s1, s2, v60] H : R))
noncomputable def r27_0 (k : KT R) : KT R := fun fr H => opn 4 fr (fun s0 s1 s2 s6 => 
(k [s0, s1, s2, (.bool false)] H : R))
noncomputable def c27 (C : CallF) (l0 : List AV) (H : AH) (k : AV → AH → R) : R := opn 3 l0 (fun x0 x1 x2 => (qFn (fun kr => (r27_0 (r27_1 kr)))
(fun fr H => k (sel 3 fr) H) [x0, x1, x2, Aes.undef] H : R))
/- (*refectory/refectoryref05.P).Must -/
noncomputable def r28_1 (C : CallF) (k : KT R) : KT R := fun fr H => opn 3 fr (fun s0 s1 s7 => 
(qNc s0 fun v10 =>
qFa 1 v10 fun v11 =>
qLd v11 H fun v12 =>
qRes (C 50 [s0, (.int .i64 2), v12] H) fun v13 H =>
k [s0, s1, s7] H : R))
noncomputable def r28_0 (C : CallF) (k : KT R) : KT R := fun fr H => opn 3 fr (fun s0 s1 s7 => 
(qRes (C 17 [s0, (.int .i64 5), s1] H) fun v6 H =>
qNot v6 fun v7 =>
k [s0, s1, v7] H : R))
noncomputable def c28 (C : CallF) (l0 : List AV) (H : AH) (k : AV → AH → R) : R := opn 2 l0 (fun x0 x1 => (qFn (fun kr => (r28_0 C (qCd (sel 2) (fun k1 => (r28_1 C k1)) (fun k1 => k1) kr)))
(fun fr H => k (.tup []) H) [x0, x1, Aes.undef] H : R))
/- (*refectory/refectoryref05.P).Fail -/
noncomputable def r29_0 (C : CallF) (k : KT R) : KT R := fun fr H => opn 1 fr (fun s0 => 
(qNc s0 fun v4 =>
qFa 1 v4 fun v5 =>
qLd v5 H fun v6 =>
qRes (C 50 [s0, (.int .i64 2), v6] H) fun v7 H =>
k [s0] H : R))
noncomputable def c29 (C : CallF) (l0 : List AV) (H : AH) (k : AV → AH → R) : R := opn 1 l0 (fun x0 => (qFn (fun kr => (r29_0 C kr))
(fun fr H => k (.tup []) H) [x0] H : R))
/- (*refectory/refectoryref05.P).Name -/
noncomputable def r30_5 (k : KT R) : KT R := fun fr H => opn 3 fr (fun s0 s2 s5 => 
(qNc s0 fun v20 =>
qFa 0 v20 fun v21 =>
qLd v21 H fun v22 =>
qNc s0 fun v24 =>
qFa 1 v24 fun v25 =>
qLd v25 H fun v26 =>
qSub X 3 v26 (.int .i64 1) fun v27 =>
qIa 3 v22 v27 fun v28 =>
qFa 1 v28 fun v29 =>
qLd v29 H fun v30 =>
k [s0, v30, s5] H : R))
noncomputable def r30_4 (k : KT R) : KT R := fun fr H => opn 3 fr (fun s0 s2 s5 => 
(qNc s0 fun v13 =>
qFa 1 v13 fun v14 =>
qLd v14 H fun v15 =>
qAdd X 3 v15 (.int .i64 1) fun v16 =>
qNc s0 fun v17 =>
qFa 1 v17 fun v18 =>
qSt 1 v18 v16 H fun _ H =>
k [s0, s2, s5] H : R))
noncomputable def r30_3 (k : KT R) : KT R := fun fr H => opn 3 fr (fun s0 s2 s5 => 
(k [s0, (.str []), s5] H : R))
noncomputable def r30_2 (C : CallF) (k : KT R) : KT R := fun fr H => opn 3 fr (fun s0 s2 s5 => 
(qNc s0 fun v8 =>
qFa 1 v8 fun v9 =>
qLd v9 H fun v10 =>
qRes (C 50 [s0, (.int .i64 2), v10] H) fun v11 H =>
k [s0, s2, s5] H : R))
noncomputable def r30_1 (C : CallF) (k : KT R) : KT R := fun fr H => opn 3 fr (fun s0 s2 s5 => 
(qRes (C 26 [s0] H) fun v4 H =>
qNeq X 3 v4 (.int .i64 1) fun v5 =>
k [s0, s2, v5] H : R))
noncomputable def r30_0 (k : KT R) : KT R := fun fr H => opn 3 fr (fun s0 s2 s5 => 
(k [s0, (.str []), s5] H : R))
noncomputable def c30 (C : CallF) (l0 : List AV) (H : AH) (k : AV → AH → R) : R := opn 1 l0 (fun x0 => (qFn (fun kr => (r30_0 (r30_1 C (qCd (sel 2) (fun _ => (r30_2 C (r30_3 kr))) (fun k1 => k1) (r30_4 (r30_5 kr))))))
(fun fr H => k (sel 1 fr) H) [x0, Aes.undef, Aes.undef] H : R))
/- refectory/refectoryref08.names -/
noncomputable def r31_4 (k : KT R) : KT R := fun fr H => opn 5 fr (fun s0 s1 s4 s5 s11 => 
(k [s0, s1, s5, s5, s11] H : R))
noncomputable def r31_3 (C : CallF) (k : KT R) : KT R := fun fr H => opn 5 fr (fun s0 s1 s4 s5 s11 => 
(qRes (C 30 [s0] H) fun v14 H =>
qRows z9 1 [(0, v14)] fun v15 =>
qApp 1 16 s5 v15 false none H fun v16 H =>
k [s0, s1, s4, v16, s11] H : R))
noncomputable def r31_2 (C : CallF) (k : KT R) : KT R := fun fr H => opn 5 fr (fun s0 s1 s4 s5 s11 => 
(qRes (C 17 [s0, (.int .i64 5), s1] H) fun v11 H =>
k [s0, s1, s4, s5, v11] H : R))
noncomputable def l31_4 (C : CallF) (k1 : KT R) : KT R → KT R := fun k2 => (r31_2 C (qCd (sel 4) (fun k4 => k4) (fun _ => k1) (qBl (fun k3 => (r31_3 C k3)) k2)))
noncomputable def r31_1 (C : CallF) (k : KT R) : KT R := fun fr H => opn 5 fr (fun s0 s1 s4 s5 s11 => 
(qRes (C 30 [s0] H) fun v7 H =>
qRows z9 1 [(0, v7)] fun v8 =>
k [s0, s1, s4, v8, s11] H : R))
noncomputable def r31_0 (k : KT R) : KT R := fun fr H => opn 5 fr (fun s0 s1 s4 s5 s11 => 
(k [s0, s1, (.sl [] .nil), s5, s11] H : R))
noncomputable def c31 (C : CallF) (l0 : List AV) (H : AH) (k : AV → AH → R) : R := opn 2 l0 (fun x0 x1 => (qFn (fun kr => (r31_0 (r31_1 C (qBl (fun k1 => (qLoop (l31_4 C k1))) (r31_4 kr)))))
(fun fr H => k (sel 2 fr) H) [x0, x1, Aes.undef, Aes.undef, Aes.undef] H : R))
/- refectory/refectoryref08.fields -/
noncomputable def r32_12 (k : KT R) : KT R := fun fr H => opn 6 fr (fun s0 s2 s3 s4 s21 s28 => 
(k [s0, s3, s3, s4, s21, s28] H : R))
noncomputable def r32_11 (k : KT R) : KT R := fun fr H => opn 6 fr (fun s0 s2 s3 s4 s21 s28 => 
(qLdA 5 s4 H fun v41 =>
qRows z124 1 [(0, v41)] fun v42 =>
qApp 5 80 s3 v42 false none H fun v43 H =>
k [s0, s2, v43, s4, s21, s28] H : R))
noncomputable def r32_10 (C : CallF) (k : KT R) : KT R := fun fr H => opn 6 fr (fun s0 s2 s3 s4 s21 s28 => 
(qRes (C 52 [s0] H) fun v38 H =>
qFa 4 s4 fun v39 =>
qSt 1 v39 v38 H fun _ H =>
k [s0, s2, s3, s4, s21, s28] H : R))
noncomputable def r32_9 (C : CallF) (k : KT R) : KT R := fun fr H => opn 6 fr (fun s0 s2 s3 s4 s21 s28 => 
(qRes (C 51 [s0] H) fun v35 H =>
qFa 2 s4 fun v36 =>
qSt 2 v36 v35 H fun _ H =>
k [s0, s2, s3, s4, s21, s28] H : R))
noncomputable def r32_8 (C : CallF) (k : KT R) : KT R := fun fr H => opn 6 fr (fun s0 s2 s3 s4 s21 s28 => 
(qRes (C 28 [s0, (.str [58])] H) fun v33 H =>
k [s0, s2, s3, s4, s21, s28] H : R))
noncomputable def r32_7 (C : CallF) (k : KT R) : KT R := fun fr H => opn 6 fr (fun s0 s2 s3 s4 s21 s28 => 
(qRes (C 34 [s0, (.str [40]), (.str [41])] H) fun v30 H =>
qFa 1 s4 fun v31 =>
qSt 1 v31 v30 H fun _ H =>
k [s0, s2, s3, s4, s21, s28] H : R))
noncomputable def r32_6 (C : CallF) (k : KT R) : KT R := fun fr H => opn 6 fr (fun s0 s2 s3 s4 s21 s28 => 
(qRes (C 27 [s0, (.int .i64 5), (.str [40])] H) fun v28 H =>
k [s0, s2, s3, s4, s21, v28] H : R))
noncomputable def r32_5 (C : CallF) (k : KT R) : KT R := fun fr H => opn 6 fr (fun s0 s2 s3 s4 s21 s28 => 
(qRes (C 30 [s0] H) fun v25 H =>
qBld z124 [(0, 1, v25)] fun v26 =>
qNew (.cells z124) .ptr H fun v4 H =>
qSt 5 v4 v26 H fun _ H =>
k [s0, s2, s3, v4, s21, s28] H : R))
noncomputable def r32_4 (C : CallF) (k : KT R) : KT R := fun fr H => opn 6 fr (fun s0 s2 s3 s4 s21 s28 => 
(qRes (C 16 [s0] H) fun v23 H =>
k [s0, s2, s3, s4, s21, s28] H : R))
noncomputable def r32_3 (C : CallF) (k : KT R) : KT R := fun fr H => opn 6 fr (fun s0 s2 s3 s4 s21 s28 => 
(qNc s0 fun v8 =>
qFa 2 v8 fun v9 =>
qLd v9 H fun v10 =>
qEql X 56 v10 (.int .i64 0) fun v11 =>
qG v11 true (fun k => k s3 H) H fun v13 H =>
qG v11 true (fun k => qLenL v13 fun v => k v H) H fun v14 H =>
qG v11 true (fun k => qEql X 3 v14 (.int .i64 0) fun v => k v H) H fun v15 H =>
qG v11 true (fun k => k v15 H) H fun v16 H =>
qG v16 false (fun k => k s0 H) H fun v17 H =>
qG v16 false (fun k => qRes (C 17 [v17, (.int .i64 5), (.str [125])] H) k) H fun v18 H =>
qG v16 false (fun k => qNot v18 fun v => k v H) H fun v19 H =>
qG v11 true (fun k => qPick v16 (.bool true) v19 fun v => k v H) H fun v20 H =>
qPick v11 v20 (.bool false) fun v21 =>
k [s0, s2, s3, s4, v21, s28] H : R))
noncomputable def l32_5 (C : CallF) (k1 : KT R) : KT R → KT R := fun k2 => (r32_3 C (qCd (sel 4) (fun k5 => k5) (fun _ => k1) (qBl (fun k3 => (r32_4 C (r32_5 C (r32_6 C (qCd (sel 5) (fun k4 => (r32_7 C k4)) (fun k4 => k4) (r32_8 C (r32_9 C (r32_10 C (r32_11 k3))))))))) k2)))
noncomputable def r32_2 (C : CallF) (k : KT R) : KT R := fun fr H => opn 6 fr (fun s0 s2 s3 s4 s21 s28 => 
(qRes (C 28 [s0, (.str [123])] H) fun v6 H =>
k [s0, s2, s3, s4, s21, s28] H : R))
noncomputable def r32_1 (k : KT R) : KT R := fun fr H => opn 6 fr (fun s0 s2 s3 s4 s21 s28 => 
(k [s0, s2, (.sl [] .nil), s4, s21, s28] H : R))
noncomputable def r32_0 (k : KT R) : KT R := fun fr H => opn 6 fr (fun s0 s2 s3 s4 s21 s28 => 
(k [s0, (.sl [] .nil), s3, s4, s21, s28] H : R))
noncomputable def c32 (C : CallF) (l0 : List AV) (H : AH) (k : AV → AH → R) : R := opn 1 l0 (fun x0 => (qFn (fun kr => (r32_0 (r32_1 (r32_2 C (qBl (fun k1 => (qLoop (l32_5 C k1))) (r32_12 kr))))))
(fun fr H => k (sel 1 fr) H) [x0, Aes.undef, Aes.undef, Aes.undef, Aes.undef, Aes.undef] H : R))
/- refectory/refectoryref08.values -/
noncomputable def r33_6 (k : KT R) : KT R := fun fr H => opn 4 fr (fun s0 s2 s3 s20 => 
(k [s0, s3, s3, s20] H : R))
noncomputable def r33_5 (C : CallF) (k : KT R) : KT R := fun fr H => opn 4 fr (fun s0 s2 s3 s20 => 
(qRes (C 30 [s0] H) fun v25 H =>
qRows z9 1 [(0, v25)] fun v26 =>
qApp 1 16 s3 v26 false none H fun v27 H =>
k [s0, s2, v27, s20] H : R))
noncomputable def r33_4 (C : CallF) (k : KT R) : KT R := fun fr H => opn 4 fr (fun s0 s2 s3 s20 => 
(qRes (C 16 [s0] H) fun v22 H =>
k [s0, s2, s3, s20] H : R))
noncomputable def r33_3 (C : CallF) (k : KT R) : KT R := fun fr H => opn 4 fr (fun s0 s2 s3 s20 => 
(qNc s0 fun v7 =>
qFa 2 v7 fun v8 =>
qLd v8 H fun v9 =>
qEql X 56 v9 (.int .i64 0) fun v10 =>
qG v10 true (fun k => k s3 H) H fun v12 H =>
qG v10 true (fun k => qLenL v12 fun v => k v H) H fun v13 H =>
qG v10 true (fun k => qEql X 3 v13 (.int .i64 0) fun v => k v H) H fun v14 H =>
qG v10 true (fun k => k v14 H) H fun v15 H =>
qG v15 false (fun k => k s0 H) H fun v16 H =>
qG v15 false (fun k => qRes (C 17 [v16, (.int .i64 5), (.str [125])] H) k) H fun v17 H =>
qG v15 false (fun k => qNot v17 fun v => k v H) H fun v18 H =>
qG v10 true (fun k => qPick v15 (.bool true) v18 fun v => k v H) H fun v19 H =>
qPick v10 v19 (.bool false) fun v20 =>
k [s0, s2, s3, v20] H : R))
noncomputable def l33_4 (C : CallF) (k1 : KT R) : KT R → KT R := fun k2 => (r33_3 C (qCd (sel 3) (fun k4 => k4) (fun _ => k1) (qBl (fun k3 => (r33_4 C (r33_5 C k3))) k2)))
noncomputable def r33_2 (C : CallF) (k : KT R) : KT R := fun fr H => opn 4 fr (fun s0 s2 s3 s20 => 
(qRes (C 28 [s0, (.str [123])] H) fun v5 H =>
k [s0, s2, s3, s20] H : R))
noncomputable def r33_1 (k : KT R) : KT R := fun fr H => opn 4 fr (fun s0 s2 s3 s20 => 
(k [s0, s2, (.sl [] .nil), s20] H : R))
noncomputable def r33_0 (k : KT R) : KT R := fun fr H => opn 4 fr (fun s0 s2 s3 s20 => 
(k [s0, (.sl [] .nil), s3, s20] H : R))
noncomputable def c33 (C : CallF) (l0 : List AV) (H : AH) (k : AV → AH → R) : R := opn 1 l0 (fun x0 => (qFn (fun kr => (r33_0 (r33_1 (r33_2 C (qBl (fun k1 => (qLoop (l33_4 C k1))) (r33_6 kr))))))
(fun fr H => k (sel 1 fr) H) [x0, Aes.undef, Aes.undef, Aes.undef] H : R))
/- refectory/refectoryref08.inputs -/
noncomputable def r34_5 (k : KT R) : KT R := fun fr H => opn 6 fr (fun s0 s1 s2 s6 s7 s26 => 
(k [s0, s1, s2, s7, s7, s26] H : R))
noncomputable def r34_4 (C : CallF) (k : KT R) : KT R := fun fr H => opn 6 fr (fun s0 s1 s2 s6 s7 s26 => 
(qRes (C 53 [s0] H) fun v29 H =>
qRows z128 1 [(0, v29)] fun v30 =>
qApp 7 120 s7 v30 false none H fun v31 H =>
k [s0, s1, s2, s6, v31, s26] H : R))
noncomputable def r34_3 (C : CallF) (k : KT R) : KT R := fun fr H => opn 6 fr (fun s0 s1 s2 s6 s7 s26 => 
(qNc s0 fun v12 =>
qFa 2 v12 fun v13 =>
qLd v13 H fun v14 =>
qEql X 56 v14 (.int .i64 0) fun v15 =>
qG v15 true (fun k => k s7 H) H fun v17 H =>
qG v15 true (fun k => qLenL v17 fun v => k v H) H fun v18 H =>
qG v15 true (fun k => qEql X 3 v18 (.int .i64 0) fun v => k v H) H fun v19 H =>
qG v15 true (fun k => k v19 H) H fun v20 H =>
qG v20 false (fun k => k s0 H) H fun v21 H =>
qG v20 false (fun k => k s2 H) H fun v22 H =>
qG v20 false (fun k => qRes (C 17 [v21, (.int .i64 5), v22] H) k) H fun v23 H =>
qG v20 false (fun k => qNot v23 fun v => k v H) H fun v24 H =>
qG v15 true (fun k => qPick v20 (.bool true) v24 fun v => k v H) H fun v25 H =>
qPick v15 v25 (.bool false) fun v26 =>
k [s0, s1, s2, s6, s7, v26] H : R))
noncomputable def l34_4 (C : CallF) (k1 : KT R) : KT R → KT R := fun k2 => (r34_3 C (qCd (sel 5) (fun k4 => k4) (fun _ => k1) (qBl (fun k3 => (r34_4 C k3)) k2)))
noncomputable def r34_2 (C : CallF) (k : KT R) : KT R := fun fr H => opn 6 fr (fun s0 s1 s2 s6 s7 s26 => 
(qRes (C 28 [s0, s1] H) fun v10 H =>
k [s0, s1, s2, s6, s7, s26] H : R))
noncomputable def r34_1 (k : KT R) : KT R := fun fr H => opn 6 fr (fun s0 s1 s2 s6 s7 s26 => 
(k [s0, s1, s2, s6, (.sl [] .nil), s26] H : R))
noncomputable def r34_0 (k : KT R) : KT R := fun fr H => opn 6 fr (fun s0 s1 s2 s6 s7 s26 => 
(k [s0, s1, s2, (.sl [] .nil), s7, s26] H : R))
noncomputable def c34 (C : CallF) (l0 : List AV) (H : AH) (k : AV → AH → R) : R := opn 3 l0 (fun x0 x1 x2 => (qFn (fun kr => (r34_0 (r34_1 (r34_2 C (qBl (fun k1 => (qLoop (l34_4 C k1))) (r34_5 kr))))))
(fun fr H => k (sel 3 fr) H) [x0, x1, x2, Aes.undef, Aes.undef, Aes.undef] H : R))
/- slices.ContainsFunc[[]refectory/api.Dir,refectory/api.Dir] -/
noncomputable def r35_1 (C : CallF) (k : KT R) : KT R := fun fr H => opn 3 fr (fun s0 s1 s4 => 
(qRes (C 54 [s0, s1] H) fun v7 H =>
qGeq X 3 v7 (.int .i64 0) fun v8 =>
k [s0, s1, v8] H : R))
noncomputable def r35_0 (k : KT R) : KT R := fun fr H => opn 3 fr (fun s0 s1 s4 => 
(k [s0, s1, (.bool false)] H : R))
noncomputable def c35 (C : CallF) (l0 : List AV) (H : AH) (k : AV → AH → R) : R := opn 2 l0 (fun x0 x1 => (qFn (fun kr => (r35_0 (r35_1 C kr)))
(fun fr H => k (sel 2 fr) H) [x0, x1, Aes.undef] H : R))
/- (*refectory/collect.gather).out$1 -/
noncomputable def r36_1 (C : CallF) (k : KT R) : KT R := fun fr H => opn 4 fr (fun s0 s1 s2 s3 => 
(qFa 0 s2 fun v4 =>
qLd v4 H fun v5 =>
qEql X 9 v5 (.str [115,107,105,112]) fun v6 =>
qG v6 true (fun k => qLd s1 H fun v => k v H) H fun v8 H =>
qG v6 true (fun k => qLdA 2 s2 H fun v => k v H) H fun v9 H =>
qG v6 true (fun k => qRes (C 37 [v8, v9, (.str [116,114,117,101])] H) k) H fun v10 H =>
qPick v6 v10 (.bool false) fun v11 =>
qG v11 false (fun k => qFa 0 s2 fun v => k v H) H fun v13 H =>
qG v11 false (fun k => qLd v13 H fun v => k v H) H fun v14 H =>
qG v11 false (fun k => qEql X 9 v14 (.str [105,110,99,108,117,100,101]) fun v => k v H) H fun v15 H =>
qG v11 false (fun k => k v15 H) H fun v16 H =>
qG v16 true (fun k => qLd s1 H fun v => k v H) H fun v17 H =>
qG v16 true (fun k => qLdA 2 s2 H fun v => k v H) H fun v18 H =>
qG v16 true (fun k => qRes (C 37 [v17, v18, (.str [102,97,108,115,101])] H) k) H fun v19 H =>
qG v11 false (fun k => qPick v16 v19 (.bool false) fun v => k v H) H fun v20 H =>
qPick v11 (.bool true) v20 fun v21 =>
k [s0, s1, s2, v21] H : R))
noncomputable def r36_0 (k : KT R) : KT R := fun fr H => opn 4 fr (fun s0 s1 s2 s3 => 
(qBox s0 H fun v2 H =>
k [s0, s1, v2, (.bool false)] H : R))
noncomputable def c36 (C : CallF) (l0 : List AV) (H : AH) (k : AV → AH → R) : R := opn 2 l0 (fun x0 x1 => (qFn (fun kr => (r36_0 (r36_1 C kr)))
(fun fr H => k (sel 3 fr) H) [x0, x1, Aes.undef, Aes.undef] H : R))
/- (*refectory/collect.gather).says -/
noncomputable def r37_7 (k : KT R) : KT R := fun fr H => opn 9 fr (fun s0 s1 s2 s4 s6 s7 s8 s13 s22 => 
(qFa 0 s8 fun v33 =>
qLd v33 H fun v34 =>
qEql X 3 v34 (.int .i64 2) fun v35 =>
qG v35 true (fun k => qFa 1 s8 fun v => k v H) H fun v37 H =>
qG v35 true (fun k => qLd v37 H fun v => k v H) H fun v38 H =>
qG v35 true (fun k => k s2 H) H fun v39 H =>
qG v35 true (fun k => qEql X 9 v38 v39 fun v => k v H) H fun v40 H =>
qPick v35 v40 (.bool false) fun v41 =>
k [s0, s1, s2, s4, v41, s7, s8, s13, s22] H : R))
noncomputable def r37_6 (C : CallF) (k : KT R) : KT R := fun fr H => opn 9 fr (fun s0 s1 s2 s4 s6 s7 s8 s13 s22 => 
(qNc s0 fun v25 =>
qFa 6 v25 fun v26 =>
qLdA 4 v26 H fun v27 =>
qFa 1 s8 fun v28 =>
qLd v28 H fun v29 =>
qRes (C 57 [v27, v29] H) fun v30 H =>
qExt v30 0 fun v31 =>
qExt v30 1 fun v32 =>
qSt 4 s8 v31 H fun _ H =>
k [s0, s1, s2, s4, s6, s7, s8, s13, s22] H : R))
noncomputable def r37_5 (k : KT R) : KT R := fun fr H => opn 9 fr (fun s0 s1 s2 s4 s6 s7 s8 s13 s22 => 
(qFa 0 s8 fun v20 =>
qLd v20 H fun v21 =>
qEql X 3 v21 (.int .i64 9) fun v22 =>
k [s0, s1, s2, s4, s6, s7, s8, s13, v22] H : R))
noncomputable def r37_4 (k : KT R) : KT R := fun fr H => opn 9 fr (fun s0 s1 s2 s4 s6 s7 s8 s13 s22 => 
(qFa 1 s4 fun v14 =>
qLd v14 H fun v15 =>
qIa 5 v15 s7 fun v17 =>
qFa 1 v17 fun v18 =>
qLdA 4 v18 H fun v19 =>
qNew (.cells z30) .ptr H fun v8 H =>
qSt 4 v8 v19 H fun _ H =>
k [s0, s1, s2, s4, s6, s7, v8, s13, s22] H : R))
noncomputable def r37_3 (k : KT R) : KT R := fun fr H => opn 9 fr (fun s0 s1 s2 s4 s6 s7 s8 s13 s22 => 
(k [s0, s1, s2, s4, (.bool false), s7, s8, s13, s22] H : R))
noncomputable def r37_2 (k : KT R) : KT R := fun fr H => opn 9 fr (fun s0 s1 s2 s4 s6 s7 s8 s13 s22 => 
(qLss X 3 s7 (.int .i64 0) fun v13 =>
k [s0, s1, s2, s4, s6, s7, s8, v13, s22] H : R))
noncomputable def r37_1 (C : CallF) (k : KT R) : KT R := fun fr H => opn 9 fr (fun s0 s1 s2 s4 s6 s7 s8 s13 s22 => 
(qFa 1 s4 fun v9 =>
qLd v9 H fun v10 =>
qRes (C 55 [v10, (.fn (.func 56) [] [])] H) fun v11 H =>
k [s0, s1, s2, s4, s6, v11, s8, s13, s22] H : R))
noncomputable def r37_0 (k : KT R) : KT R := fun fr H => opn 9 fr (fun s0 s1 s2 s4 s6 s7 s8 s13 s22 => 
(qBox s1 H fun v4 H =>
k [s0, s1, s2, v4, (.bool false), s7, s8, s13, s22] H : R))
noncomputable def c37 (C : CallF) (l0 : List AV) (H : AH) (k : AV → AH → R) : R := opn 3 l0 (fun x0 x1 x2 => (qFn (fun kr => (r37_0 (r37_1 C (r37_2 (qCd (sel 7) (fun _ => (r37_3 kr)) (fun k2 => k2) (r37_4 (r37_5 (qCd (sel 8) (fun k1 => (r37_6 C k1)) (fun k1 => k1) (r37_7 kr)))))))))
(fun fr H => k (sel 4 fr) H) [x0, x1, x2, Aes.undef, Aes.undef, Aes.undef, Aes.undef, Aes.undef, Aes.undef] H : R))
/- slices.Contains[[]string,string] -/
noncomputable def r38_1 (C : CallF) (k : KT R) : KT R := fun fr H => opn 3 fr (fun s0 s1 s4 => 
(qRes (C 58 [s0, s1] H) fun v7 H =>
qGeq X 3 v7 (.int .i64 0) fun v8 =>
k [s0, s1, v8] H : R))
noncomputable def r38_0 (k : KT R) : KT R := fun fr H => opn 3 fr (fun s0 s1 s4 => 
(k [s0, s1, (.bool false)] H : R))
noncomputable def c38 (C : CallF) (l0 : List AV) (H : AH) (k : AV → AH → R) : R := opn 2 l0 (fun x0 x1 => (qFn (fun kr => (r38_0 (r38_1 C kr)))
(fun fr H => k (sel 2 fr) H) [x0, x1, Aes.undef] H : R))
/- refectory/schema.Possible -/
noncomputable def r39_10 (k : KT R) : KT R := fun fr H => opn 13 fr (fun s0 s1 s2 s4 s5 s7 s9 s10 s18 s19 s20 s21 s75 => 
(k [s0, s1, s2, s7, s5, s7, s9, s10, s18, s19, s20, s21, s75] H : R))
noncomputable def r39_9 (k : KT R) : KT R := fun fr H => opn 13 fr (fun s0 s1 s2 s4 s5 s7 s9 s10 s18 s19 s20 s21 s75 => 
(qAdd X 3 s20 (.int .i64 1) fun v81 =>
k [s0, s1, s2, s4, s5, s7, s9, s10, s18, s19, v81, s21, s75] H : R))
noncomputable def r39_8 (k : KT R) : KT R := fun fr H => opn 13 fr (fun s0 s1 s2 s4 s5 s7 s9 s10 s18 s19 s20 s21 s75 => 
(qFa 1 s9 fun v77 =>
qLd v77 H fun v78 =>
qRows z9 1 [(0, v78)] fun v79 =>
qApp 1 16 s7 v79 false none H fun v80 H =>
k [s0, s1, s2, s4, s5, v80, s9, s10, s18, s19, s20, s21, s75] H : R))
noncomputable def r39_7 (C : CallF) (k : KT R) : KT R := fun fr H => opn 13 fr (fun s0 s1 s2 s4 s5 s7 s9 s10 s18 s19 s20 s21 s75 => 
(qG s10 true (fun k => qLdA 3 s2 H fun v => k v H) H fun v58 H =>
qG s10 true (fun k => qFa 1 s9 fun v => k v H) H fun v59 H =>
qG s10 true (fun k => qLd v59 H fun v => k v H) H fun v60 H =>
qG s10 true (fun k => qRes (C 60 [v58, v60] H) k) H fun v61 H =>
qG s10 true (fun k => qEql X 3 v61 (.int .i64 2) fun v => k v H) H fun v62 H =>
qPick s10 v62 (.bool false) fun v63 =>
qG v63 true (fun k => qFa 0 s9 fun v => k v H) H fun v65 H =>
qG v63 true (fun k => qLd v65 H fun v => k v H) H fun v66 H =>
qG v63 true (fun k => qEql X 3 v66 (.int .i64 2) fun v => k v H) H fun v67 H =>
qPick v63 v67 (.bool false) fun v68 =>
qG v68 true (fun k => k s7 H) H fun v70 H =>
qG v68 true (fun k => qFa 1 s9 fun v => k v H) H fun v71 H =>
qG v68 true (fun k => qLd v71 H fun v => k v H) H fun v72 H =>
qG v68 true (fun k => qRes (C 38 [v70, v72] H) k) H fun v73 H =>
qG v68 true (fun k => qNot v73 fun v => k v H) H fun v74 H =>
qPick v68 v74 (.bool false) fun v75 =>
k [s0, s1, s2, s4, s5, s7, s9, s10, s18, s19, s20, s21, v75] H : R))
noncomputable def r39_6 (C : CallF) (k : KT R) : KT R := fun fr H => opn 13 fr (fun s0 s1 s2 s4 s5 s7 s9 s10 s18 s19 s20 s21 s75 => 
(qFa 0 s5 fun v24 =>
qLd v24 H fun v25 =>
qEql X 3 v25 (.int .i64 2) fun v26 =>
qG v26 true (fun k => qFa 1 s9 fun v => k v H) H fun v28 H =>
qG v26 true (fun k => qLd v28 H fun v => k v H) H fun v29 H =>
qG v26 true (fun k => k s1 H) H fun v30 H =>
qG v26 true (fun k => qEql X 9 v29 v30 fun v => k v H) H fun v31 H =>
qPick v26 v31 (.bool false) fun v32 =>
qG v32 false (fun k => qFa 0 s5 fun v => k v H) H fun v34 H =>
qG v32 false (fun k => qLd v34 H fun v => k v H) H fun v35 H =>
qG v32 false (fun k => qEql X 3 v35 (.int .i64 3) fun v => k v H) H fun v36 H =>
qG v32 false (fun k => k v36 H) H fun v37 H =>
qG v37 true (fun k => qFa 2 s9 fun v => k v H) H fun v38 H =>
qG v37 true (fun k => qLd v38 H fun v => k v H) H fun v39 H =>
qG v37 true (fun k => k s1 H) H fun v40 H =>
qG v37 true (fun k => qRes (C 38 [v39, v40] H) k) H fun v41 H =>
qG v32 false (fun k => qPick v37 v41 (.bool false) fun v => k v H) H fun v42 H =>
qPick v32 (.bool true) v42 fun v43 =>
qG v43 false (fun k => qFa 0 s5 fun v => k v H) H fun v45 H =>
qG v43 false (fun k => qLd v45 H fun v => k v H) H fun v46 H =>
qG v43 false (fun k => qEql X 3 v46 (.int .i64 4) fun v => k v H) H fun v47 H =>
qG v43 false (fun k => k v47 H) H fun v48 H =>
qG v48 true (fun k => qFa 2 s5 fun v => k v H) H fun v49 H =>
qG v48 true (fun k => qLd v49 H fun v => k v H) H fun v50 H =>
qG v48 true (fun k => qFa 1 s9 fun v => k v H) H fun v51 H =>
qG v48 true (fun k => qLd v51 H fun v => k v H) H fun v52 H =>
qG v48 true (fun k => qRes (C 38 [v50, v52] H) k) H fun v53 H =>
qG v43 false (fun k => qPick v48 v53 (.bool false) fun v => k v H) H fun v54 H =>
qPick v43 (.bool true) v54 fun v55 =>
k [s0, s1, s2, s4, s5, s7, s9, v55, s18, s19, s20, s21, s75] H : R))
noncomputable def r39_5 (k : KT R) : KT R := fun fr H => opn 13 fr (fun s0 s1 s2 s4 s5 s7 s9 s10 s18 s19 s20 s21 s75 => 
(qIa 5 s18 s20 fun v22 =>
qLdA 5 v22 H fun v23 =>
qNew (.cells z82) .ptr H fun v9 H =>
qSt 5 v9 v23 H fun _ H =>
k [s0, s1, s2, s4, s5, s7, v9, s10, s18, s19, s20, s21, s75] H : R))
noncomputable def r39_4 (k : KT R) : KT R := fun fr H => opn 13 fr (fun s0 s1 s2 s4 s5 s7 s9 s10 s18 s19 s20 s21 s75 => 
(qLss X 3 s20 s19 fun v21 =>
k [s0, s1, s2, s4, s5, s7, s9, s10, s18, s19, s20, v21, s75] H : R))
noncomputable def l39_5 (C : CallF) (k1 : KT R) : KT R → KT R := fun k2 => (r39_4 (qCd (sel 11) (fun k5 => k5) (fun _ => k1) (qBl (fun k3 => (r39_5 (r39_6 C (r39_7 C (qCd (sel 12) (fun k4 => (r39_8 k4)) (fun k4 => k4) k3))))) (r39_9 k2))))
noncomputable def r39_3 (k : KT R) : KT R := fun fr H => opn 13 fr (fun s0 s1 s2 s4 s5 s7 s9 s10 s18 s19 s20 s21 s75 => 
(qFa 2 s2 fun v17 =>
qLd v17 H fun v18 =>
qLenL v18 fun v19 =>
k [s0, s1, s2, s4, s5, s7, s9, s10, v18, v19, (.int .i64 0), s21, s75] H : R))
noncomputable def r39_2 (k : KT R) : KT R := fun fr H => opn 13 fr (fun s0 s1 s2 s4 s5 s7 s9 s10 s18 s19 s20 s21 s75 => 
(k [s0, s1, s2, s4, s5, (.sl [] .nil), s9, s10, s18, s19, s20, s21, s75] H : R))
noncomputable def r39_1 (C : CallF) (k : KT R) : KT R := fun fr H => opn 13 fr (fun s0 s1 s2 s4 s5 s7 s9 s10 s18 s19 s20 s21 s75 => 
(qLdA 3 s2 H fun v12 =>
qRes (C 59 [v12, s1] H) fun v14 H =>
qExt v14 0 fun v15 =>
qExt v14 1 fun v16 =>
qNew (.cells z82) .ptr H fun v5 H =>
qSt 5 v5 v15 H fun _ H =>
k [s0, s1, s2, s4, v5, s7, s9, s10, s18, s19, s20, s21, s75] H : R))
noncomputable def r39_0 (k : KT R) : KT R := fun fr H => opn 13 fr (fun s0 s1 s2 s4 s5 s7 s9 s10 s18 s19 s20 s21 s75 => 
(qBox s0 H fun v2 H =>
k [s0, s1, v2, (.sl [] .nil), s5, s7, s9, s10, s18, s19, s20, s21, s75] H : R))
noncomputable def c39 (C : CallF) (l0 : List AV) (H : AH) (k : AV → AH → R) : R := opn 2 l0 (fun x0 x1 => (qFn (fun kr => (r39_0 (r39_1 C (r39_2 (r39_3 (qBl (fun k1 => (qLoop (l39_5 C k1))) (r39_10 kr)))))))
(fun fr H => k (sel 3 fr) H) [x0, x1, Aes.undef, Aes.undef, Aes.undef, Aes.undef, Aes.undef, Aes.undef, Aes.undef, Aes.undef, Aes.undef, Aes.undef, Aes.undef] H : R))
/- slices.IndexFunc[[]refectory/api.Frag,refectory/api.Frag] -/
noncomputable def r40_7 (k : KT R) : KT R := fun fr H => opn 8 fr (fun s0 s1 s4 s5 s7 s8 s9 s16 => 
(k [s0, s1, (.int .i64 (-1)), s5, s7, s8, s9, s16] H : R))
noncomputable def r40_6 (k : KT R) : KT R := fun fr H => opn 8 fr (fun s0 s1 s4 s5 s7 s8 s9 s16 => 
(qAdd X 3 s8 (.int .i64 1) fun v18 =>
k [s0, s1, s4, s5, s7, v18, s9, s16] H : R))
noncomputable def r40_5 (k : KT R) : KT R := fun fr H => opn 8 fr (fun s0 s1 s4 s5 s7 s8 s9 s16 => 
(k [s0, s1, s5, s5, s7, s8, s9, s16] H : R))
noncomputable def r40_4 (C : CallF) (k : KT R) : KT R := fun fr H => opn 8 fr (fun s0 s1 s4 s5 s7 s8 s9 s16 => 
(qIa 4 s0 s5 fun v14 =>
qLdA 4 v14 H fun v15 =>
qCallV C s1 [v15] H fun v16 H =>
k [s0, s1, s4, s5, s7, s8, s9, v16] H : R))
noncomputable def r40_3 (k : KT R) : KT R := fun fr H => opn 8 fr (fun s0 s1 s4 s5 s7 s8 s9 s16 => 
(k [s0, s1, s4, s8, s7, s8, s9, s16] H : R))
noncomputable def r40_2 (k : KT R) : KT R := fun fr H => opn 8 fr (fun s0 s1 s4 s5 s7 s8 s9 s16 => 
(qLss X 3 s8 s7 fun v9 =>
k [s0, s1, s4, s5, s7, s8, v9, s16] H : R))
noncomputable def l40_5 (C : CallF) (k1 : KT R) (kr : KT R) : KT R → KT R := fun k2 => (r40_2 (qCd (sel 6) (fun k5 => k5) (fun _ => k1) (qBl (fun k3 => (r40_3 (r40_4 C (qCd (sel 7) (fun _ => (r40_5 kr)) (fun k4 => k4) k3)))) (r40_6 k2))))
noncomputable def r40_1 (k : KT R) : KT R := fun fr H => opn 8 fr (fun s0 s1 s4 s5 s7 s8 s9 s16 => 
(qLenL s0 fun v7 =>
k [s0, s1, s4, s5, v7, (.int .i64 0), s9, s16] H : R))
noncomputable def r40_0 (k : KT R) : KT R := fun fr H => opn 8 fr (fun s0 s1 s4 s5 s7 s8 s9 s16 => 
(k [s0, s1, (.int .i64 0), s5, s7, s8, s9, s16] H : R))
noncomputable def c40 (C : CallF) (l0 : List AV) (H : AH) (k : AV → AH → R) : R := opn 2 l0 (fun x0 x1 => (qFn (fun kr => (r40_0 (r40_1 (qBl (fun k1 => (qLoop (l40_5 C k1 kr))) (r40_7 kr)))))
(fun fr H => k (sel 2 fr) H) [x0, x1, Aes.undef, Aes.undef, Aes.undef, Aes.undef, Aes.undef, Aes.undef] H : R))
/- refectory/frags.Find$1 -/
noncomputable def r41_1 (k : KT R) : KT R := fun fr H => opn 4 fr (fun s0 s1 s2 s3 => 
(qFa 0 s2 fun v4 =>
qLd v4 H fun v5 =>
qLd s1 H fun v6 =>
qEql X 9 v5 v6 fun v7 =>
k [s0, s1, s2, v7] H : R))
noncomputable def r41_0 (k : KT R) : KT R := fun fr H => opn 4 fr (fun s0 s1 s2 s3 => 
(qBox s0 H fun v2 H =>
k [s0, s1, v2, (.bool false)] H : R))
noncomputable def c41 (C : CallF) (l0 : List AV) (H : AH) (k : AV → AH → R) : R := opn 2 l0 (fun x0 x1 => (qFn (fun kr => (r41_0 (r41_1 kr)))
(fun fr H => k (sel 3 fr) H) [x0, x1, Aes.undef, Aes.undef] H : R))
/- refectory/refectoryref06.set -/
noncomputable def r42_8 (k : KT R) : KT R := fun fr H => opn 6 fr (fun s0 s1 s4 s5 s11 s38 => 
(k [s0, s1, s5, s5, s11, s38] H : R))
noncomputable def r42_7 (C : CallF) (k : KT R) : KT R := fun fr H => opn 6 fr (fun s0 s1 s4 s5 s11 s38 => 
(qRes (C 61 [s0, s1] H) fun v42 H =>
qRows z36 1 [(0, v42)] fun v43 =>
qApp 7 128 s5 v43 false none H fun v44 H =>
k [s0, s1, s4, v44, s11, s38] H : R))
noncomputable def r42_6 (C : CallF) (k : KT R) : KT R := fun fr H => opn 6 fr (fun s0 s1 s4 s5 s11 s38 => 
(qNc s0 fun v25 =>
qFa 2 v25 fun v26 =>
qLd v26 H fun v27 =>
qEql X 56 v27 (.int .i64 0) fun v28 =>
qG v28 true (fun k => k s5 H) H fun v30 H =>
qG v28 true (fun k => qLenL v30 fun v => k v H) H fun v31 H =>
qG v28 true (fun k => qEql X 3 v31 (.int .i64 0) fun v => k v H) H fun v32 H =>
qG v28 true (fun k => k v32 H) H fun v33 H =>
qG v33 false (fun k => k s0 H) H fun v34 H =>
qG v33 false (fun k => qRes (C 17 [v34, (.int .i64 5), (.str [125])] H) k) H fun v35 H =>
qG v33 false (fun k => qNot v35 fun v => k v H) H fun v36 H =>
qG v28 true (fun k => qPick v33 (.bool true) v36 fun v => k v H) H fun v37 H =>
qPick v28 v37 (.bool false) fun v38 =>
k [s0, s1, s4, s5, s11, v38] H : R))
noncomputable def l42_4 (C : CallF) (k1 : KT R) : KT R → KT R := fun k2 => (r42_6 C (qCd (sel 5) (fun k4 => k4) (fun _ => k1) (qBl (fun k3 => (r42_7 C k3)) k2)))
noncomputable def r42_5 (C : CallF) (k : KT R) : KT R := fun fr H => opn 6 fr (fun s0 s1 s4 s5 s11 s38 => 
(qRes (C 28 [s0, (.str [123])] H) fun v23 H =>
k [s0, s1, s4, s5, s11, s38] H : R))
noncomputable def r42_4 (k : KT R) : KT R := fun fr H => opn 6 fr (fun s0 s1 s4 s5 s11 s38 => 
(k [s0, s1, (.sl [] .nil), s5, s11, s38] H : R))
noncomputable def r42_3 (k : KT R) : KT R := fun fr H => opn 6 fr (fun s0 s1 s4 s5 s11 s38 => 
(qNc s0 fun v15 =>
qFa 1 v15 fun v16 =>
qLd v16 H fun v17 =>
qNc s0 fun v18 =>
qFa 2 v18 fun v19 =>
qSt 1 v19 (.int .i64 4) H fun _ H =>
qNc s0 fun v20 =>
qFa 3 v20 fun v21 =>
qSt 1 v21 v17 H fun _ H =>
k [s0, s1, s4, s5, s11, s38] H : R))
noncomputable def r42_2 (C : CallF) (k : KT R) : KT R := fun fr H => opn 6 fr (fun s0 s1 s4 s5 s11 s38 => 
(qRes (C 27 [s0, (.int .i64 5), (.str [123])] H) fun v7 H =>
qG v7 true (fun k => k s1 H) H fun v9 H =>
qG v7 true (fun k => qGtr X 3 v9 (.int .i64 12) fun v => k v H) H fun v10 H =>
qPick v7 v10 (.bool false) fun v11 =>
k [s0, s1, s4, s5, v11, s38] H : R))
noncomputable def r42_1 (k : KT R) : KT R := fun fr H => opn 6 fr (fun s0 s1 s4 s5 s11 s38 => 
(k [s0, s1, s4, (.sl [] .nil), s11, s38] H : R))
noncomputable def r42_0 (k : KT R) : KT R := fun fr H => opn 6 fr (fun s0 s1 s4 s5 s11 s38 => 
(k [s0, s1, (.sl [] .nil), s5, s11, s38] H : R))
noncomputable def c42 (C : CallF) (l0 : List AV) (H : AH) (k : AV → AH → R) : R := opn 2 l0 (fun x0 x1 => (qFn (fun kr => (r42_0 (r42_1 (r42_2 C (qCd (sel 4) (fun _ => (r42_3 (r42_4 kr))) (fun k5 => k5) (r42_5 C (qBl (fun k1 => (qLoop (l42_4 C k1))) (r42_8 kr))))))))
(fun fr H => k (sel 2 fr) H) [x0, x1, Aes.undef, Aes.undef, Aes.undef, Aes.undef] H : R))
/- refectory/refectoryref06.vars -/
noncomputable def r43_14 (k : KT R) : KT R := fun fr H => opn 7 fr (fun s0 s2 s3 s4 s7 s22 s34 => 
(k [s0, s3, s3, s4, s7, s22, s34] H : R))
noncomputable def r43_13 (k : KT R) : KT R := fun fr H => opn 7 fr (fun s0 s2 s3 s4 s7 s22 s34 => 
(qLdA 7 s4 H fun v45 =>
qRows z140 1 [(0, v45)] fun v46 =>
qApp 7 120 s3 v46 false none H fun v47 H =>
k [s0, s2, v47, s4, s7, s22, s34] H : R))
noncomputable def r43_12 (k : KT R) : KT R := fun fr H => opn 7 fr (fun s0 s2 s3 s4 s7 s22 s34 => 
(qNc s0 fun v42 =>
qFa 4 v42 fun v43 =>
qSt 1 v43 (.bool true) H fun _ H =>
k [s0, s2, s3, s4, s7, s22, s34] H : R))
noncomputable def r43_11 (C : CallF) (k : KT R) : KT R := fun fr H => opn 7 fr (fun s0 s2 s3 s4 s7 s22 s34 => 
(qRes (C 62 [s0, (.int .i64 1)] H) fun v39 H =>
qFa 3 s4 fun v40 =>
qSt 4 v40 v39 H fun _ H =>
k [s0, s2, s3, s4, s7, s22, s34] H : R))
noncomputable def r43_10 (k : KT R) : KT R := fun fr H => opn 7 fr (fun s0 s2 s3 s4 s7 s22 s34 => 
(qNc s0 fun v36 =>
qFa 4 v36 fun v37 =>
qSt 1 v37 (.bool false) H fun _ H =>
k [s0, s2, s3, s4, s7, s22, s34] H : R))
noncomputable def r43_9 (C : CallF) (k : KT R) : KT R := fun fr H => opn 7 fr (fun s0 s2 s3 s4 s7 s22 s34 => 
(qRes (C 17 [s0, (.int .i64 5), (.str [61])] H) fun v34 H =>
k [s0, s2, s3, s4, s7, s22, v34] H : R))
noncomputable def r43_8 (C : CallF) (k : KT R) : KT R := fun fr H => opn 7 fr (fun s0 s2 s3 s4 s7 s22 s34 => 
(qRes (C 51 [s0] H) fun v31 H =>
qFa 1 s4 fun v32 =>
qSt 2 v32 v31 H fun _ H =>
k [s0, s2, s3, s4, s7, s22, s34] H : R))
noncomputable def r43_7 (C : CallF) (k : KT R) : KT R := fun fr H => opn 7 fr (fun s0 s2 s3 s4 s7 s22 s34 => 
(qRes (C 28 [s0, (.str [58])] H) fun v29 H =>
k [s0, s2, s3, s4, s7, s22, s34] H : R))
noncomputable def r43_6 (C : CallF) (k : KT R) : KT R := fun fr H => opn 7 fr (fun s0 s2 s3 s4 s7 s22 s34 => 
(qRes (C 30 [s0] H) fun v26 H =>
qBld z140 [(0, 1, v26)] fun v27 =>
qNew (.cells z140) .ptr H fun v4 H =>
qSt 7 v4 v27 H fun _ H =>
k [s0, s2, s3, v4, s7, s22, s34] H : R))
noncomputable def r43_5 (C : CallF) (k : KT R) : KT R := fun fr H => opn 7 fr (fun s0 s2 s3 s4 s7 s22 s34 => 
(qRes (C 28 [s0, (.str [36])] H) fun v24 H =>
k [s0, s2, s3, s4, s7, s22, s34] H : R))
noncomputable def r43_4 (C : CallF) (k : KT R) : KT R := fun fr H => opn 7 fr (fun s0 s2 s3 s4 s7 s22 s34 => 
(qNc s0 fun v9 =>
qFa 2 v9 fun v10 =>
qLd v10 H fun v11 =>
qEql X 56 v11 (.int .i64 0) fun v12 =>
qG v12 true (fun k => k s3 H) H fun v14 H =>
qG v12 true (fun k => qLenL v14 fun v => k v H) H fun v15 H =>
qG v12 true (fun k => qEql X 3 v15 (.int .i64 0) fun v => k v H) H fun v16 H =>
qG v12 true (fun k => k v16 H) H fun v17 H =>
qG v17 false (fun k => k s0 H) H fun v18 H =>
qG v17 false (fun k => qRes (C 17 [v18, (.int .i64 5), (.str [41])] H) k) H fun v19 H =>
qG v17 false (fun k => qNot v19 fun v => k v H) H fun v20 H =>
qG v12 true (fun k => qPick v17 (.bool true) v20 fun v => k v H) H fun v21 H =>
qPick v12 v21 (.bool false) fun v22 =>
k [s0, s2, s3, s4, s7, v22, s34] H : R))
noncomputable def l43_5 (C : CallF) (k1 : KT R) : KT R → KT R := fun k2 => (r43_4 C (qCd (sel 5) (fun k5 => k5) (fun _ => k1) (qBl (fun k3 => (r43_5 C (r43_6 C (r43_7 C (r43_8 C (r43_9 C (qCd (sel 6) (fun k4 => (r43_10 (r43_11 C (r43_12 k4)))) (fun k4 => k4) (r43_13 k3)))))))) k2)))
noncomputable def r43_3 (k : KT R) : KT R := fun fr H => opn 7 fr (fun s0 s2 s3 s4 s7 s22 s34 => 
(k [s0, (.sl [] .nil), s3, s4, s7, s22, s34] H : R))
noncomputable def r43_2 (C : CallF) (k : KT R) : KT R := fun fr H => opn 7 fr (fun s0 s2 s3 s4 s7 s22 s34 => 
(qRes (C 17 [s0, (.int .i64 5), (.str [40])] H) fun v6 H =>
qNot v6 fun v7 =>
k [s0, s2, s3, s4, v7, s22, s34] H : R))
noncomputable def r43_1 (k : KT R) : KT R := fun fr H => opn 7 fr (fun s0 s2 s3 s4 s7 s22 s34 => 
(k [s0, s2, (.sl [] .nil), s4, s7, s22, s34] H : R))
noncomputable def r43_0 (k : KT R) : KT R := fun fr H => opn 7 fr (fun s0 s2 s3 s4 s7 s22 s34 => 
(k [s0, (.sl [] .nil), s3, s4, s7, s22, s34] H : R))
noncomputable def c43 (C : CallF) (l0 : List AV) (H : AH) (k : AV → AH → R) : R := opn 1 l0 (fun x0 => (qFn (fun kr => (r43_0 (r43_1 (r43_2 C (qCd (sel 4) (fun _ => (r43_3 kr)) (fun k6 => k6) (qBl (fun k1 => (qLoop (l43_5 C k1))) (r43_14 kr)))))))
(fun fr H => k (sel 1 fr) H) [x0, Aes.undef, Aes.undef, Aes.undef, Aes.undef, Aes.undef, Aes.undef] H : R))
/- refectory/refectoryref06.dirs -/
noncomputable def r44_5 (k : KT R) : KT R := fun fr H => opn 5 fr (fun s0 s2 s3 s4 s6 => 
(k [s0, s3, s3, s4, s6] H : R))
noncomputable def r44_4 (C : CallF) (k : KT R) : KT R := fun fr H => opn 5 fr (fun s0 s2 s3 s4 s6 => 
(qRes (C 63 [s0] H) fun v12 H =>
qBld z40 [(0, 1, s4), (1, 1, v12)] fun v13 =>
qRows z40 1 [(0, v13)] fun v14 =>
qApp 2 40 s3 v14 false none H fun v15 H =>
k [s0, s2, v15, s4, s6] H : R))
noncomputable def r44_3 (C : CallF) (k : KT R) : KT R := fun fr H => opn 5 fr (fun s0 s2 s3 s4 s6 => 
(qRes (C 30 [s0] H) fun v8 H =>
k [s0, s2, s3, v8, s6] H : R))
noncomputable def r44_2 (C : CallF) (k : KT R) : KT R := fun fr H => opn 5 fr (fun s0 s2 s3 s4 s6 => 
(qRes (C 17 [s0, (.int .i64 5), (.str [64])] H) fun v6 H =>
k [s0, s2, s3, s4, v6] H : R))
noncomputable def l44_4 (C : CallF) (k1 : KT R) : KT R → KT R := fun k2 => (r44_2 C (qCd (sel 4) (fun k4 => k4) (fun _ => k1) (qBl (fun k3 => (r44_3 C (r44_4 C k3))) k2)))
noncomputable def r44_1 (k : KT R) : KT R := fun fr H => opn 5 fr (fun s0 s2 s3 s4 s6 => 
(k [s0, s2, (.sl [] .nil), s4, s6] H : R))
noncomputable def r44_0 (k : KT R) : KT R := fun fr H => opn 5 fr (fun s0 s2 s3 s4 s6 => 
(k [s0, (.sl [] .nil), s3, s4, s6] H : R))
noncomputable def c44 (C : CallF) (l0 : List AV) (H : AH) (k : AV → AH → R) : R := opn 1 l0 (fun x0 => (qFn (fun kr => (r44_0 (r44_1 (qBl (fun k1 => (qLoop (l44_4 C k1))) (r44_5 kr)))))
(fun fr H => k (sel 1 fr) H) [x0, Aes.undef, Aes.undef, Aes.undef, Aes.undef] H : R))
/- refectory/refectoryref01.Letter -/
noncomputable def r45_1 (k : KT R) : KT R := fun fr H => opn 2 fr (fun s0 s2 => 
(qGeq X 5 s0 (.int .u8 97) fun v4 =>
qG v4 true (fun k => k s0 H) H fun v6 H =>
qG v4 true (fun k => qLeq X 5 v6 (.int .u8 122) fun v => k v H) H fun v7 H =>
qPick v4 v7 (.bool false) fun v8 =>
qG v8 false (fun k => k s0 H) H fun v10 H =>
qG v8 false (fun k => qGeq X 5 v10 (.int .u8 65) fun v => k v H) H fun v11 H =>
qG v8 false (fun k => k v11 H) H fun v12 H =>
qG v12 true (fun k => k s0 H) H fun v13 H =>
qG v12 true (fun k => qLeq X 5 v13 (.int .u8 90) fun v => k v H) H fun v14 H =>
qG v8 false (fun k => qPick v12 v14 (.bool false) fun v => k v H) H fun v15 H =>
qPick v8 (.bool true) v15 fun v16 =>
qG v16 false (fun k => k s0 H) H fun v18 H =>
qG v16 false (fun k => qEql X 5 v18 (.int .u8 95) fun v => k v H) H fun v19 H =>
qPick v16 (.bool true) v19 fun v20 =>
k [s0, v20] H : R))
noncomputable def r45_0 (k : KT R) : KT R := fun fr H => opn 2 fr (fun s0 s2 => 
(k [s0, (.bool false)] H : R))
noncomputable def c45 (C : CallF) (l0 : List AV) (H : AH) (k : AV → AH → R) : R := opn 1 l0 (fun x0 => (qFn (fun kr => (r45_0 (r45_1 kr)))
(fun fr H => k (sel 1 fr) H) [x0, Aes.undef] H : R))
/- refectory/refectoryref01.Digit -/
noncomputable def r46_1 (k : KT R) : KT R := fun fr H => opn 2 fr (fun s0 s2 => 
(qGeq X 5 s0 (.int .u8 48) fun v4 =>
qG v4 true (fun k => k s0 H) H fun v6 H =>
qG v4 true (fun k => qLeq X 5 v6 (.int .u8 57) fun v => k v H) H fun v7 H =>
qPick v4 v7 (.bool false) fun v8 =>
k [s0, v8] H : R))
noncomputable def r46_0 (k : KT R) : KT R := fun fr H => opn 2 fr (fun s0 s2 => 
(k [s0, (.bool false)] H : R))
noncomputable def c46 (C : CallF) (l0 : List AV) (H : AH) (k : AV → AH → R) : R := opn 1 l0 (fun x0 => (qFn (fun kr => (r46_0 (r46_1 kr)))
(fun fr H => k (sel 1 fr) H) [x0, Aes.undef] H : R))
/- refectory/refectoryref04.part -/
noncomputable def r47_1 (C : CallF) (k : KT R) : KT R := fun fr H => opn 2 fr (fun s0 s2 => 
(qRes (C 45 [s0] H) fun v4 H =>
qG v4 false (fun k => k s0 H) H fun v6 H =>
qG v4 false (fun k => qRes (C 46 [v6] H) k) H fun v7 H =>
qPick v4 (.bool true) v7 fun v8 =>
qG v8 false (fun k => k s0 H) H fun v10 H =>
qG v8 false (fun k => qEql X 5 v10 (.int .u8 46) fun v => k v H) H fun v11 H =>
qPick v8 (.bool true) v11 fun v12 =>
qG v12 false (fun k => k s0 H) H fun v14 H =>
qG v12 false (fun k => qEql X 5 v14 (.int .u8 43) fun v => k v H) H fun v15 H =>
qPick v12 (.bool true) v15 fun v16 =>
qG v16 false (fun k => k s0 H) H fun v18 H =>
qG v16 false (fun k => qEql X 5 v18 (.int .u8 45) fun v => k v H) H fun v19 H =>
qPick v16 (.bool true) v19 fun v20 =>
k [s0, v20] H : R))
noncomputable def r47_0 (k : KT R) : KT R := fun fr H => opn 2 fr (fun s0 s2 => 
(k [s0, (.bool false)] H : R))
noncomputable def c47 (C : CallF) (l0 : List AV) (H : AH) (k : AV → AH → R) : R := opn 1 l0 (fun x0 => (qFn (fun kr => (r47_0 (r47_1 C kr)))
(fun fr H => k (sel 1 fr) H) [x0, Aes.undef] H : R))
/- refectory/refectoryref02.Number -/
noncomputable def r48_25 (k : KT R) : KT R := fun fr H => opn 15 fr (fun s0 s2 s3 s4 s5 s6 s9 s19 s36 s49 s55 s75 s93 s100 s107 => 
(k [s0, s5, (.bool true), s4, s5, s6, s9, s19, s36, s49, s55, s75, s93, s100, s107] H : R))
noncomputable def r48_24 (k : KT R) : KT R := fun fr H => opn 15 fr (fun s0 s2 s3 s4 s5 s6 s9 s19 s36 s49 s55 s75 s93 s100 s107 => 
(k [s0, (.bool false), (.bool false), s4, s5, s6, s9, s19, s36, s49, s55, s75, s93, s100, s107] H : R))
noncomputable def r48_23 (k : KT R) : KT R := fun fr H => opn 15 fr (fun s0 s2 s3 s4 s5 s6 s9 s19 s36 s49 s55 s75 s93 s100 s107 => 
(qLenS s0 fun v106 =>
qNeq X 3 s4 v106 fun v107 =>
k [s0, s2, s3, s4, s5, s6, s9, s19, s36, s49, s55, s75, s93, s100, v107] H : R))
noncomputable def r48_22 (k : KT R) : KT R := fun fr H => opn 15 fr (fun s0 s2 s3 s4 s5 s6 s9 s19 s36 s49 s55 s75 s93 s100 s107 => 
(qAdd X 3 s4 s6 fun v103 =>
k [s0, s2, s3, v103, (.bool false), s6, s9, s19, s36, s49, s55, s75, s93, s100, s107] H : R))
noncomputable def r48_21 (k : KT R) : KT R := fun fr H => opn 15 fr (fun s0 s2 s3 s4 s5 s6 s9 s19 s36 s49 s55 s75 s93 s100 s107 => 
(k [s0, (.bool false), (.bool false), s4, s5, s6, s9, s19, s36, s49, s55, s75, s93, s100, s107] H : R))
noncomputable def r48_20 (k : KT R) : KT R := fun fr H => opn 15 fr (fun s0 s2 s3 s4 s5 s6 s9 s19 s36 s49 s55 s75 s93 s100 s107 => 
(qEql X 3 s6 (.int .i64 0) fun v100 =>
k [s0, s2, s3, s4, s5, s6, s9, s19, s36, s49, s55, s75, s93, v100, s107] H : R))
noncomputable def r48_19 (C : CallF) (k : KT R) : KT R := fun fr H => opn 15 fr (fun s0 s2 s3 s4 s5 s6 s9 s19 s36 s49 s55 s75 s93 s100 s107 => 
(qRes (C 64 [s0, s4] H) fun v98 H =>
k [s0, s2, s3, s4, s5, v98, s9, s19, s36, s49, s55, s75, s93, s100, s107] H : R))
noncomputable def r48_18 (k : KT R) : KT R := fun fr H => opn 15 fr (fun s0 s2 s3 s4 s5 s6 s9 s19 s36 s49 s55 s75 s93 s100 s107 => 
(qAdd X 3 s4 (.int .i64 1) fun v95 =>
k [s0, s2, s3, v95, s5, s6, s9, s19, s36, s49, s55, s75, s93, s100, s107] H : R))
noncomputable def r48_17 (k : KT R) : KT R := fun fr H => opn 15 fr (fun s0 s2 s3 s4 s5 s6 s9 s19 s36 s49 s55 s75 s93 s100 s107 => 
(qLenS s0 fun v80 =>
qLss X 3 s4 v80 fun v81 =>
qG v81 true (fun k => k s0 H) H fun v83 H =>
qG v81 true (fun k => k s4 H) H fun v84 H =>
qG v81 true (fun k => qIx v83 v84 fun v => k v H) H fun v85 H =>
qG v81 true (fun k => qEql X 5 v85 (.int .u8 43) fun v => k v H) H fun v86 H =>
qG v81 true (fun k => k v86 H) H fun v87 H =>
qG v87 false (fun k => k s0 H) H fun v88 H =>
qG v87 false (fun k => k s4 H) H fun v89 H =>
qG v87 false (fun k => qIx v88 v89 fun v => k v H) H fun v90 H =>
qG v87 false (fun k => qEql X 5 v90 (.int .u8 45) fun v => k v H) H fun v91 H =>
qG v81 true (fun k => qPick v87 (.bool true) v91 fun v => k v H) H fun v92 H =>
qPick v81 v92 (.bool false) fun v93 =>
k [s0, s2, s3, s4, s5, s6, s9, s19, s36, s49, s55, s75, v93, s100, s107] H : R))
noncomputable def r48_16 (k : KT R) : KT R := fun fr H => opn 15 fr (fun s0 s2 s3 s4 s5 s6 s9 s19 s36 s49 s55 s75 s93 s100 s107 => 
(qAdd X 3 s4 (.int .i64 1) fun v77 =>
k [s0, s2, s3, v77, s5, s6, s9, s19, s36, s49, s55, s75, s93, s100, s107] H : R))
noncomputable def r48_15 (k : KT R) : KT R := fun fr H => opn 15 fr (fun s0 s2 s3 s4 s5 s6 s9 s19 s36 s49 s55 s75 s93 s100 s107 => 
(qLenS s0 fun v62 =>
qLss X 3 s4 v62 fun v63 =>
qG v63 true (fun k => k s0 H) H fun v65 H =>
qG v63 true (fun k => k s4 H) H fun v66 H =>
qG v63 true (fun k => qIx v65 v66 fun v => k v H) H fun v67 H =>
qG v63 true (fun k => qEql X 5 v67 (.int .u8 101) fun v => k v H) H fun v68 H =>
qG v63 true (fun k => k v68 H) H fun v69 H =>
qG v69 false (fun k => k s0 H) H fun v70 H =>
qG v69 false (fun k => k s4 H) H fun v71 H =>
qG v69 false (fun k => qIx v70 v71 fun v => k v H) H fun v72 H =>
qG v69 false (fun k => qEql X 5 v72 (.int .u8 69) fun v => k v H) H fun v73 H =>
qG v63 true (fun k => qPick v69 (.bool true) v73 fun v => k v H) H fun v74 H =>
qPick v63 v74 (.bool false) fun v75 =>
k [s0, s2, s3, s4, s5, s6, s9, s19, s36, s49, s55, v75, s93, s100, s107] H : R))
noncomputable def r48_14 (k : KT R) : KT R := fun fr H => opn 15 fr (fun s0 s2 s3 s4 s5 s6 s9 s19 s36 s49 s55 s75 s93 s100 s107 => 
(qAdd X 3 s4 (.int .i64 1) fun v57 =>
qAdd X 3 v57 s6 fun v59 =>
k [s0, s2, s3, v59, (.bool false), s6, s9, s19, s36, s49, s55, s75, s93, s100, s107] H : R))
noncomputable def r48_13 (k : KT R) : KT R := fun fr H => opn 15 fr (fun s0 s2 s3 s4 s5 s6 s9 s19 s36 s49 s55 s75 s93 s100 s107 => 
(k [s0, (.bool false), (.bool false), s4, s5, s6, s9, s19, s36, s49, s55, s75, s93, s100, s107] H : R))
noncomputable def r48_12 (k : KT R) : KT R := fun fr H => opn 15 fr (fun s0 s2 s3 s4 s5 s6 s9 s19 s36 s49 s55 s75 s93 s100 s107 => 
(qEql X 3 s6 (.int .i64 0) fun v55 =>
k [s0, s2, s3, s4, s5, s6, s9, s19, s36, s49, v55, s75, s93, s100, s107] H : R))
noncomputable def r48_11 (C : CallF) (k : KT R) : KT R := fun fr H => opn 15 fr (fun s0 s2 s3 s4 s5 s6 s9 s19 s36 s49 s55 s75 s93 s100 s107 => 
(qAdd X 3 s4 (.int .i64 1) fun v52 =>
qRes (C 64 [s0, v52] H) fun v53 H =>
k [s0, s2, s3, s4, s5, v53, s9, s19, s36, s49, s55, s75, s93, s100, s107] H : R))
noncomputable def r48_10 (k : KT R) : KT R := fun fr H => opn 15 fr (fun s0 s2 s3 s4 s5 s6 s9 s19 s36 s49 s55 s75 s93 s100 s107 => 
(qLenS s0 fun v42 =>
qLss X 3 s4 v42 fun v43 =>
qG v43 true (fun k => k s0 H) H fun v45 H =>
qG v43 true (fun k => k s4 H) H fun v46 H =>
qG v43 true (fun k => qIx v45 v46 fun v => k v H) H fun v47 H =>
qG v43 true (fun k => qEql X 5 v47 (.int .u8 46) fun v => k v H) H fun v48 H =>
qPick v43 v48 (.bool false) fun v49 =>
k [s0, s2, s3, s4, s5, s6, s9, s19, s36, v49, s55, s75, s93, s100, s107] H : R))
noncomputable def r48_9 (k : KT R) : KT R := fun fr H => opn 15 fr (fun s0 s2 s3 s4 s5 s6 s9 s19 s36 s49 s55 s75 s93 s100 s107 => 
(qAdd X 3 s4 s6 fun v39 =>
k [s0, s2, s3, v39, s5, s6, s9, s19, s36, s49, s55, s75, s93, s100, s107] H : R))
noncomputable def r48_8 (k : KT R) : KT R := fun fr H => opn 15 fr (fun s0 s2 s3 s4 s5 s6 s9 s19 s36 s49 s55 s75 s93 s100 s107 => 
(k [s0, (.bool false), (.bool false), s4, s5, s6, s9, s19, s36, s49, s55, s75, s93, s100, s107] H : R))
noncomputable def r48_7 (k : KT R) : KT R := fun fr H => opn 15 fr (fun s0 s2 s3 s4 s5 s6 s9 s19 s36 s49 s55 s75 s93 s100 s107 => 
(qEql X 3 s6 (.int .i64 0) fun v26 =>
qG v26 false (fun k => k s6 H) H fun v28 H =>
qG v26 false (fun k => qGtr X 3 v28 (.int .i64 1) fun v => k v H) H fun v29 H =>
qG v26 false (fun k => k v29 H) H fun v30 H =>
qG v30 true (fun k => k s0 H) H fun v31 H =>
qG v30 true (fun k => k s4 H) H fun v32 H =>
qG v30 true (fun k => qIx v31 v32 fun v => k v H) H fun v33 H =>
qG v30 true (fun k => qEql X 5 v33 (.int .u8 48) fun v => k v H) H fun v34 H =>
qG v26 false (fun k => qPick v30 v34 (.bool false) fun v => k v H) H fun v35 H =>
qPick v26 (.bool true) v35 fun v36 =>
k [s0, s2, s3, s4, s5, s6, s9, s19, v36, s49, s55, s75, s93, s100, s107] H : R))
noncomputable def r48_6 (C : CallF) (k : KT R) : KT R := fun fr H => opn 15 fr (fun s0 s2 s3 s4 s5 s6 s9 s19 s36 s49 s55 s75 s93 s100 s107 => 
(qRes (C 64 [s0, s4] H) fun v24 H =>
k [s0, s2, s3, s4, s5, v24, s9, s19, s36, s49, s55, s75, s93, s100, s107] H : R))
noncomputable def r48_5 (k : KT R) : KT R := fun fr H => opn 15 fr (fun s0 s2 s3 s4 s5 s6 s9 s19 s36 s49 s55 s75 s93 s100 s107 => 
(qAdd X 3 s4 (.int .i64 1) fun v21 =>
k [s0, s2, s3, v21, s5, s6, s9, s19, s36, s49, s55, s75, s93, s100, s107] H : R))
noncomputable def r48_4 (k : KT R) : KT R := fun fr H => opn 15 fr (fun s0 s2 s3 s4 s5 s6 s9 s19 s36 s49 s55 s75 s93 s100 s107 => 
(qLenS s0 fun v12 =>
qLss X 3 s4 v12 fun v13 =>
qG v13 true (fun k => k s0 H) H fun v15 H =>
qG v13 true (fun k => k s4 H) H fun v16 H =>
qG v13 true (fun k => qIx v15 v16 fun v => k v H) H fun v17 H =>
qG v13 true (fun k => qEql X 5 v17 (.int .u8 45) fun v => k v H) H fun v18 H =>
qPick v13 v18 (.bool false) fun v19 =>
k [s0, s2, s3, s4, s5, s6, s9, v19, s36, s49, s55, s75, s93, s100, s107] H : R))
noncomputable def r48_3 (k : KT R) : KT R := fun fr H => opn 15 fr (fun s0 s2 s3 s4 s5 s6 s9 s19 s36 s49 s55 s75 s93 s100 s107 => 
(k [s0, (.bool false), (.bool false), s4, s5, s6, s9, s19, s36, s49, s55, s75, s93, s100, s107] H : R))
noncomputable def r48_2 (k : KT R) : KT R := fun fr H => opn 15 fr (fun s0 s2 s3 s4 s5 s6 s9 s19 s36 s49 s55 s75 s93 s100 s107 => 
(qLenS s0 fun v8 =>
qGtr X 3 v8 (.int .i64 40) fun v9 =>
k [s0, s2, s3, s4, s5, s6, v9, s19, s36, s49, s55, s75, s93, s100, s107] H : R))
noncomputable def r48_1 (k : KT R) : KT R := fun fr H => opn 15 fr (fun s0 s2 s3 s4 s5 s6 s9 s19 s36 s49 s55 s75 s93 s100 s107 => 
(k [s0, s2, s3, (.int .i64 0), (.bool true), s6, s9, s19, s36, s49, s55, s75, s93, s100, s107] H : R))
noncomputable def r48_0 (k : KT R) : KT R := fun fr H => opn 15 fr (fun s0 s2 s3 s4 s5 s6 s9 s19 s36 s49 s55 s75 s93 s100 s107 => 
(k [s0, (.bool false), (.bool false), s4, s5, s6, s9, s19, s36, s49, s55, s75, s93, s100, s107] H : R))
noncomputable def c48 (C : CallF) (l0 : List AV) (H : AH) (k : AV → AH → R) : R := opn 1 l0 (fun x0 => (qFn (fun kr => (r48_0 (r48_1 (r48_2 (qCd (sel 6) (fun _ => (r48_3 kr)) (fun k9 => k9) (r48_4 (qCd (sel 7) (fun k8 => (r48_5 k8)) (fun k8 => k8) (r48_6 C (r48_7 (qCd (sel 8) (fun _ => (r48_8 kr)) (fun k7 => k7) (r48_9 (r48_10 (qCd (sel 9) (fun k5 => (r48_11 C (r48_12 (qCd (sel 10) (fun _ => (r48_13 kr)) (fun k6 => k6) (r48_14 k5))))) (fun k5 => k5) (r48_15 (qCd (sel 11) (fun k2 => (r48_16 (r48_17 (qCd (sel 12) (fun k4 => (r48_18 k4)) (fun k4 => k4) (r48_19 C (r48_20 (qCd (sel 13) (fun _ => (r48_21 kr)) (fun k3 => k3) (r48_22 k2)))))))) (fun k2 => k2) (r48_23 (qCd (sel 14) (fun _ => (r48_24 kr)) (fun k1 => k1) (r48_25 kr))))))))))))))))))
(fun fr H => k (.tup [(sel 1 fr), (sel 2 fr)]) H) [x0, Aes.undef, Aes.undef, Aes.undef, Aes.undef, Aes.undef, Aes.undef, Aes.undef, Aes.undef, Aes.undef, Aes.undef, Aes.undef, Aes.undef, Aes.undef, Aes.undef] H : R))
/- refectory/refectoryref04.text -/
noncomputable def r49_11 (k : KT R) : KT R := fun fr H => opn 12 fr (fun s0 s1 s4 s5 s6 s7 s8 s9 s22 s53 s57 s65 => 
(qAdd X 3 s7 (.int .i64 1) fun v78 =>
k [s0, s1, s8, v78, s9, s7, s8, s9, s22, s53, s57, s65] H : R))
noncomputable def r49_10 (C : CallF) (k : KT R) : KT R := fun fr H => opn 12 fr (fun s0 s1 s4 s5 s6 s7 s8 s9 s22 s53 s57 s65 => 
(qAdd X 3 s7 (.int .i64 1) fun v71 =>
qSlc Try.t9.desc 0 s0 (some s1) (some v71) none fun v72 =>
qRes (C 66 [v72] H) fun v73 H =>
qExt v73 0 fun v74 =>
qExt v73 1 fun v75 =>
k [s0, s1, s4, s5, s6, s7, v74, v75, s22, s53, s57, s65] H : R))
noncomputable def r49_9 (k : KT R) : KT R := fun fr H => opn 12 fr (fun s0 s1 s4 s5 s6 s7 s8 s9 s22 s53 s57 s65 => 
(k [s0, s1, (.str []), s7, (.bool false), s7, s8, s9, s22, s53, s57, s65] H : R))
noncomputable def r49_8 (k : KT R) : KT R := fun fr H => opn 12 fr (fun s0 s1 s4 s5 s6 s7 s8 s9 s22 s53 s57 s65 => 
(qLenS s0 fun v64 =>
qGeq X 3 s7 v64 fun v65 =>
k [s0, s1, s4, s5, s6, s7, s8, s9, s22, s53, s57, v65] H : R))
noncomputable def r49_7 (k : KT R) : KT R := fun fr H => opn 12 fr (fun s0 s1 s4 s5 s6 s7 s8 s9 s22 s53 s57 s65 => 
(qAdd X 3 s7 (.int .i64 1) fun v61 =>
k [s0, s1, s4, s5, s6, v61, s8, s9, s22, s53, s57, s65] H : R))
noncomputable def r49_6 (k : KT R) : KT R := fun fr H => opn 12 fr (fun s0 s1 s4 s5 s6 s7 s8 s9 s22 s53 s57 s65 => 
(qAdd X 3 s7 (.int .i64 1) fun v59 =>
k [s0, s1, s4, s5, s6, v59, s8, s9, s22, s53, s57, s65] H : R))
noncomputable def r49_5 (k : KT R) : KT R := fun fr H => opn 12 fr (fun s0 s1 s4 s5 s6 s7 s8 s9 s22 s53 s57 s65 => 
(qIx s0 s7 fun v56 =>
qEql X 5 v56 (.int .u8 92) fun v57 =>
k [s0, s1, s4, s5, s6, s7, s8, s9, s22, s53, v57, s65] H : R))
noncomputable def r49_4 (k : KT R) : KT R := fun fr H => opn 12 fr (fun s0 s1 s4 s5 s6 s7 s8 s9 s22 s53 s57 s65 => 
(qLenS s0 fun v34 =>
qLss X 3 s7 v34 fun v35 =>
qG v35 true (fun k => k s0 H) H fun v37 H =>
qG v35 true (fun k => k s7 H) H fun v38 H =>
qG v35 true (fun k => qIx v37 v38 fun v => k v H) H fun v39 H =>
qG v35 true (fun k => qNeq X 5 v39 (.int .u8 34) fun v => k v H) H fun v40 H =>
qPick v35 v40 (.bool false) fun v41 =>
qG v41 true (fun k => k s0 H) H fun v43 H =>
qG v41 true (fun k => k s7 H) H fun v44 H =>
qG v41 true (fun k => qIx v43 v44 fun v => k v H) H fun v45 H =>
qG v41 true (fun k => qNeq X 5 v45 (.int .u8 10) fun v => k v H) H fun v46 H =>
qPick v41 v46 (.bool false) fun v47 =>
qG v47 true (fun k => k s0 H) H fun v49 H =>
qG v47 true (fun k => k s7 H) H fun v50 H =>
qG v47 true (fun k => qIx v49 v50 fun v => k v H) H fun v51 H =>
qG v47 true (fun k => qNeq X 5 v51 (.int .u8 13) fun v => k v H) H fun v52 H =>
qPick v47 v52 (.bool false) fun v53 =>
k [s0, s1, s4, s5, s6, s7, s8, s9, s22, v53, s57, s65] H : R))
noncomputable def l49_6 (k2 : KT R) : KT R → KT R := fun k3 => (r49_4 (qCd (sel 9) (fun k6 => k6) (fun _ => k2) (qBl (fun k4 => (r49_5 (qCd (sel 10) (fun k5 => (r49_6 k5)) (fun k5 => k5) (r49_7 k4)))) k3)))
noncomputable def r49_3 (k : KT R) : KT R := fun fr H => opn 12 fr (fun s0 s1 s4 s5 s6 s7 s8 s9 s22 s53 s57 s65 => 
(qAdd X 3 s1 (.int .i64 1) fun v31 =>
k [s0, s1, s4, s5, s6, v31, s8, s9, s22, s53, s57, s65] H : R))
noncomputable def r49_2 (C : CallF) (k : KT R) : KT R := fun fr H => opn 12 fr (fun s0 s1 s4 s5 s6 s7 s8 s9 s22 s53 s57 s65 => 
(qAdd X 3 s1 (.int .i64 3) fun v25 =>
qRes (C 65 [s0, v25] H) fun v26 H =>
qExt v26 0 fun v27 =>
qExt v26 1 fun v28 =>
qExt v26 2 fun v29 =>
k [s0, s1, v27, v28, v29, s7, s8, s9, s22, s53, s57, s65] H : R))
noncomputable def r49_1 (k : KT R) : KT R := fun fr H => opn 12 fr (fun s0 s1 s4 s5 s6 s7 s8 s9 s22 s53 s57 s65 => 
(qLenS s0 fun v11 =>
qSub X 3 v11 s1 fun v13 =>
qGeq X 3 v13 (.int .i64 3) fun v14 =>
qG v14 true (fun k => k s0 H) H fun v16 H =>
qG v14 true (fun k => k s1 H) H fun v17 H =>
qG v14 true (fun k => k s1 H) H fun v18 H =>
qG v14 true (fun k => qAdd X 3 v18 (.int .i64 3) fun v => k v H) H fun v19 H =>
qG v14 true (fun k => qSlc Try.t9.desc 0 v16 (some v17) (some v19) none fun v => k v H) H fun v20 H =>
qG v14 true (fun k => qEql X 9 v20 (.str [34,34,34]) fun v => k v H) H fun v21 H =>
qPick v14 v21 (.bool false) fun v22 =>
k [s0, s1, s4, s5, s6, s7, s8, s9, v22, s53, s57, s65] H : R))
noncomputable def r49_0 (k : KT R) : KT R := fun fr H => opn 12 fr (fun s0 s1 s4 s5 s6 s7 s8 s9 s22 s53 s57 s65 => 
(k [s0, s1, (.str []), (.int .i64 0), (.bool false), s7, s8, s9, s22, s53, s57, s65] H : R))
noncomputable def c49 (C : CallF) (l0 : List AV) (H : AH) (k : AV → AH → R) : R := opn 2 l0 (fun x0 x1 => (qFn (fun kr => (r49_0 (r49_1 (qCd (sel 8) (fun _ => (r49_2 C kr)) (fun k7 => k7) (r49_3 (qBl (fun k2 => (qLoop (l49_6 k2))) (r49_8 (qCd (sel 11) (fun _ => (r49_9 kr)) (fun k1 => k1) (r49_10 C (r49_11 kr))))))))))
(fun fr H => k (.tup [(sel 2 fr), (sel 3 fr), (sel 4 fr)]) H) [x0, x1, Aes.undef, Aes.undef, Aes.undef, Aes.undef, Aes.undef, Aes.undef, Aes.undef, Aes.undef, Aes.undef, Aes.undef] H : R))
/- (*refectory/refectoryref05.P).fail -/
noncomputable def r50_1 (k : KT R) : KT R := fun fr H => opn 4 fr (fun s0 s1 s2 s10 => 
(qNc s0 fun v15 =>
qFa 2 v15 fun v16 =>
qSt 1 v16 s1 H fun _ H =>
qNc s0 fun v17 =>
qFa 3 v17 fun v18 =>
qSt 1 v18 s2 H fun _ H =>
k [s0, s1, s2, s10] H : R))
noncomputable def r50_0 (k : KT R) : KT R := fun fr H => opn 4 fr (fun s0 s1 s2 s10 => 
(qNc s0 fun v7 =>
qFa 2 v7 fun v8 =>
qLd v8 H fun v9 =>
qEql X 56 v9 (.int .i64 0) fun v10 =>
k [s0, s1, s2, v10] H : R))
noncomputable def c50 (C : CallF) (l0 : List AV) (H : AH) (k : AV → AH → R) : R := opn 3 l0 (fun x0 x1 x2 => (qFn (fun kr => (r50_0 (qCd (sel 3) (fun k1 => (r50_1 k1)) (fun k1 => k1) kr)))
(fun fr H => k (.tup []) H) [x0, x1, x2, Aes.undef] H : R))
/- (*refectory/refectoryref05.P).Typed -/
noncomputable def r51_6 (k : KT R) : KT R := fun fr H => opn 6 fr (fun s0 s2 s3 s4 s5 s27 => 
(qLdA 2 s3 H fun v39 =>
qSt 2 s2 v39 H fun _ H =>
k [s0, s2, s3, s4, s5, s27] H : R))
noncomputable def r51_5 (k : KT R) : KT R := fun fr H => opn 6 fr (fun s0 s2 s3 s4 s5 s27 => 
(qNc s0 fun v37 =>
qFa 1 v37 fun v38 =>
qSt 1 v38 s4 H fun _ H =>
k [s0, s2, s3, s4, s5, s27] H : R))
noncomputable def r51_4 (k : KT R) : KT R := fun fr H => opn 6 fr (fun s0 s2 s3 s4 s5 s27 => 
(qBld z122 [] fun v34 =>
qSt 2 s2 v34 H fun _ H =>
k [s0, s2, s3, s4, s5, s27] H : R))
noncomputable def r51_3 (C : CallF) (k : KT R) : KT R := fun fr H => opn 6 fr (fun s0 s2 s3 s4 s5 s27 => 
(qNc s0 fun v30 =>
qFa 1 v30 fun v31 =>
qLd v31 H fun v32 =>
qRes (C 50 [s0, (.int .i64 2), v32] H) fun v33 H =>
k [s0, s2, s3, s4, s5, s27] H : R))
noncomputable def r51_2 (k : KT R) : KT R := fun fr H => opn 6 fr (fun s0 s2 s3 s4 s5 s27 => 
(qNot s5 fun v20 =>
qG v20 false (fun k => k s0 H) H fun v22 H =>
qG v20 false (fun k => qNc v22 fun v => k v H) H fun v23 H =>
qG v20 false (fun k => qFa 2 v23 fun v => k v H) H fun v24 H =>
qG v20 false (fun k => qLd v24 H fun v => k v H) H fun v25 H =>
qG v20 false (fun k => qNeq X 56 v25 (.int .i64 0) fun v => k v H) H fun v26 H =>
qPick v20 (.bool true) v26 fun v27 =>
k [s0, s2, s3, s4, s5, v27] H : R))
noncomputable def r51_1 (C : CallF) (k : KT R) : KT R := fun fr H => opn 6 fr (fun s0 s2 s3 s4 s5 s27 => 
(qNc s0 fun v8 =>
qFa 0 v8 fun v9 =>
qLd v9 H fun v10 =>
qNc s0 fun v12 =>
qFa 1 v12 fun v13 =>
qLd v13 H fun v14 =>
qNew (.cells z122) .ptr H fun v3 H =>
qRes (C 67 [v10, v14] H) fun v15 H =>
qKeep z122 v3 H (qExt v15 0 fun v16 =>
qExt v15 1 fun v17 =>
qExt v15 2 fun v18 =>
qSt 2 v3 v16 H fun _ H =>
k [s0, s2, v3, v17, v18, s27] H) : R))
noncomputable def r51_0 (k : KT R) : KT R := fun fr H => opn 6 fr (fun s0 s2 s3 s4 s5 s27 => 
(qNew (.cells z122) .ptr H fun v2 H =>
k [s0, v2, s3, s4, s5, s27] H : R))
noncomputable def c51 (C : CallF) (l0 : List AV) (H : AH) (k : AV → AH → R) : R := opn 1 l0 (fun x0 => (qFn (fun kr => (r51_0 (r51_1 C (r51_2 (qCd (sel 5) (fun _ => (r51_3 C (r51_4 kr))) (fun k1 => k1) (r51_5 (r51_6 kr)))))))
(fun fr H => qPtr (sel 1 fr) (qLdA 2 (sel 1 fr) H fun w0 => k w0 H)) [x0, Aes.undef, Aes.undef, Aes.undef, Aes.undef, Aes.undef] H : R))
/- refectory/refectoryref08.cost -/
noncomputable def r52_15 (k : KT R) : KT R := fun fr H => opn 7 fr (fun s0 s2 s3 s6 s9 s16 s23 => 
(k [s0, s3, s3, s6, s9, s16, s23] H : R))
noncomputable def r52_14 (C : CallF) (k : KT R) : KT R := fun fr H => opn 7 fr (fun s0 s2 s3 s6 s9 s16 s23 => 
(qRes (C 28 [s0, (.str [41])] H) fun v46 H =>
k [s0, s2, s3, s6, s9, s16, s23] H : R))
noncomputable def r52_13 (k : KT R) : KT R := fun fr H => opn 7 fr (fun s0 s2 s3 s6 s9 s16 s23 => 
(qNc s0 fun v39 =>
qFa 1 v39 fun v40 =>
qLd v40 H fun v41 =>
qAdd X 3 v41 (.int .i64 1) fun v42 =>
qNc s0 fun v43 =>
qFa 1 v43 fun v44 =>
qSt 1 v44 v42 H fun _ H =>
k [s0, s2, s3, s6, s9, s16, s23] H : R))
noncomputable def r52_12 (C : CallF) (k : KT R) : KT R := fun fr H => opn 7 fr (fun s0 s2 s3 s6 s9 s16 s23 => 
(qNc s0 fun v27 =>
qFa 0 v27 fun v28 =>
qLd v28 H fun v29 =>
qNc s0 fun v31 =>
qFa 1 v31 fun v32 =>
qLd v32 H fun v33 =>
qIa 3 v29 v33 fun v34 =>
qFa 1 v34 fun v35 =>
qLd v35 H fun v36 =>
qRes (C 68 [v36] H) fun v37 H =>
k [s0, s2, v37, s6, s9, s16, s23] H : R))
noncomputable def r52_11 (k : KT R) : KT R := fun fr H => opn 7 fr (fun s0 s2 s3 s6 s9 s16 s23 => 
(k [s0, (.int .i64 1), s3, s6, s9, s16, s23] H : R))
noncomputable def r52_10 (C : CallF) (k : KT R) : KT R := fun fr H => opn 7 fr (fun s0 s2 s3 s6 s9 s16 s23 => 
(qRes (C 29 [s0] H) fun v25 H =>
k [s0, s2, s3, s6, s9, s16, s23] H : R))
noncomputable def r52_9 (C : CallF) (k : KT R) : KT R := fun fr H => opn 7 fr (fun s0 s2 s3 s6 s9 s16 s23 => 
(qRes (C 26 [s0] H) fun v22 H =>
qNeq X 3 v22 (.int .i64 2) fun v23 =>
k [s0, s2, s3, s6, s9, s16, v23] H : R))
noncomputable def r52_8 (C : CallF) (k : KT R) : KT R := fun fr H => opn 7 fr (fun s0 s2 s3 s6 s9 s16 s23 => 
(qRes (C 28 [s0, (.str [58])] H) fun v20 H =>
k [s0, s2, s3, s6, s9, s16, s23] H : R))
noncomputable def r52_7 (C : CallF) (k : KT R) : KT R := fun fr H => opn 7 fr (fun s0 s2 s3 s6 s9 s16 s23 => 
(qRes (C 29 [s0] H) fun v18 H =>
k [s0, s2, s3, s6, s9, s16, s23] H : R))
noncomputable def r52_6 (C : CallF) (k : KT R) : KT R := fun fr H => opn 7 fr (fun s0 s2 s3 s6 s9 s16 s23 => 
(qRes (C 17 [s0, (.int .i64 1), (.str [110])] H) fun v15 H =>
qNot v15 fun v16 =>
k [s0, s2, s3, s6, s9, v16, s23] H : R))
noncomputable def r52_5 (C : CallF) (k : KT R) : KT R := fun fr H => opn 7 fr (fun s0 s2 s3 s6 s9 s16 s23 => 
(qRes (C 28 [s0, (.str [40])] H) fun v13 H =>
k [s0, s2, s3, s6, s9, s16, s23] H : R))
noncomputable def r52_4 (C : CallF) (k : KT R) : KT R := fun fr H => opn 7 fr (fun s0 s2 s3 s6 s9 s16 s23 => 
(qRes (C 29 [s0] H) fun v11 H =>
k [s0, s2, s3, s6, s9, s16, s23] H : R))
noncomputable def r52_3 (C : CallF) (k : KT R) : KT R := fun fr H => opn 7 fr (fun s0 s2 s3 s6 s9 s16 s23 => 
(qRes (C 17 [s0, (.int .i64 1), (.str [99,111,115,116])] H) fun v8 H =>
qNot v8 fun v9 =>
k [s0, s2, s3, s6, v9, s16, s23] H : R))
noncomputable def r52_2 (k : KT R) : KT R := fun fr H => opn 7 fr (fun s0 s2 s3 s6 s9 s16 s23 => 
(k [s0, (.int .i64 1), s3, s6, s9, s16, s23] H : R))
noncomputable def r52_1 (C : CallF) (k : KT R) : KT R := fun fr H => opn 7 fr (fun s0 s2 s3 s6 s9 s16 s23 => 
(qRes (C 17 [s0, (.int .i64 5), (.str [64])] H) fun v5 H =>
qNot v5 fun v6 =>
k [s0, s2, s3, v6, s9, s16, s23] H : R))
noncomputable def r52_0 (k : KT R) : KT R := fun fr H => opn 7 fr (fun s0 s2 s3 s6 s9 s16 s23 => 
(k [s0, (.int .i64 0), s3, s6, s9, s16, s23] H : R))
noncomputable def c52 (C : CallF) (l0 : List AV) (H : AH) (k : AV → AH → R) : R := opn 1 l0 (fun x0 => (qFn (fun kr => (r52_0 (r52_1 C (qCd (sel 3) (fun _ => (r52_2 kr)) (fun k4 => k4) (r52_3 C (qCd (sel 4) (fun k3 => (r52_4 C k3)) (fun k3 => k3) (r52_5 C (r52_6 C (qCd (sel 5) (fun k2 => (r52_7 C k2)) (fun k2 => k2) (r52_8 C (r52_9 C (qCd (sel 6) (fun _ => (r52_10 C (r52_11 kr))) (fun k1 => k1) (r52_12 C (r52_13 (r52_14 C (r52_15 kr))))))))))))))))
(fun fr H => k (sel 1 fr) H) [x0, Aes.undef, Aes.undef, Aes.undef, Aes.undef, Aes.undef, Aes.undef] H : R))
/- refectory/refectoryref08.input -/
noncomputable def r53_7 (k : KT R) : KT R := fun fr H => opn 4 fr (fun s0 s2 s3 s15 => 
(qLdA 7 s3 H fun v19 =>
qSt 7 s2 v19 H fun _ H =>
k [s0, s2, s3, s15] H : R))
noncomputable def r53_6 (C : CallF) (k : KT R) : KT R := fun fr H => opn 4 fr (fun s0 s2 s3 s15 => 
(qRes (C 62 [s0, (.int .i64 1)] H) fun v17 H =>
qFa 3 s3 fun v18 =>
qSt 4 v18 v17 H fun _ H =>
k [s0, s2, s3, s15] H : R))
noncomputable def r53_5 (C : CallF) (k : KT R) : KT R := fun fr H => opn 4 fr (fun s0 s2 s3 s15 => 
(qRes (C 17 [s0, (.int .i64 5), (.str [61])] H) fun v15 H =>
k [s0, s2, s3, v15] H : R))
noncomputable def r53_4 (C : CallF) (k : KT R) : KT R := fun fr H => opn 4 fr (fun s0 s2 s3 s15 => 
(qRes (C 51 [s0] H) fun v12 H =>
qFa 1 s3 fun v13 =>
qSt 2 v13 v12 H fun _ H =>
k [s0, s2, s3, s15] H : R))
noncomputable def r53_3 (C : CallF) (k : KT R) : KT R := fun fr H => opn 4 fr (fun s0 s2 s3 s15 => 
(qRes (C 28 [s0, (.str [58])] H) fun v10 H =>
k [s0, s2, s3, s15] H : R))
noncomputable def r53_2 (C : CallF) (k : KT R) : KT R := fun fr H => opn 4 fr (fun s0 s2 s3 s15 => 
(qRes (C 30 [s0] H) fun v7 H =>
qBld z128 [(0, 1, v7)] fun v8 =>
qNew (.cells z128) .ptr H fun v3 H =>
qSt 7 v3 v8 H fun _ H =>
k [s0, s2, v3, s15] H : R))
noncomputable def r53_1 (C : CallF) (k : KT R) : KT R := fun fr H => opn 4 fr (fun s0 s2 s3 s15 => 
(qRes (C 16 [s0] H) fun v5 H =>
k [s0, s2, s3, s15] H : R))
noncomputable def r53_0 (k : KT R) : KT R := fun fr H => opn 4 fr (fun s0 s2 s3 s15 => 
(qNew (.cells z128) .ptr H fun v2 H =>
k [s0, v2, s3, s15] H : R))
noncomputable def c53 (C : CallF) (l0 : List AV) (H : AH) (k : AV → AH → R) : R := opn 1 l0 (fun x0 => (qFn (fun kr => (r53_0 (r53_1 C (r53_2 C (r53_3 C (r53_4 C (r53_5 C (qCd (sel 3) (fun k1 => (r53_6 C k1)) (fun k1 => k1) (r53_7 kr)))))))))
(fun fr H => qPtr (sel 1 fr) (qLdA 7 (sel 1 fr) H fun w0 => k w0 H)) [x0, Aes.undef, Aes.undef, Aes.undef] H : R))
/- slices.IndexFunc[[]refectory/api.Dir,refectory/api.Dir] -/
noncomputable def r54_7 (k : KT R) : KT R := fun fr H => opn 8 fr (fun s0 s1 s4 s5 s7 s8 s9 s16 => 
(k [s0, s1, (.int .i64 (-1)), s5, s7, s8, s9, s16] H : R))
noncomputable def r54_6 (k : KT R) : KT R := fun fr H => opn 8 fr (fun s0 s1 s4 s5 s7 s8 s9 s16 => 
(qAdd X 3 s8 (.int .i64 1) fun v18 =>
k [s0, s1, s4, s5, s7, v18, s9, s16] H : R))
noncomputable def r54_5 (k : KT R) : KT R := fun fr H => opn 8 fr (fun s0 s1 s4 s5 s7 s8 s9 s16 => 
(k [s0, s1, s5, s5, s7, s8, s9, s16] H : R))
noncomputable def r54_4 (C : CallF) (k : KT R) : KT R := fun fr H => opn 8 fr (fun s0 s1 s4 s5 s7 s8 s9 s16 => 
(qIa 2 s0 s5 fun v14 =>
qLdA 2 v14 H fun v15 =>
qCallV C s1 [v15] H fun v16 H =>
k [s0, s1, s4, s5, s7, s8, s9, v16] H : R))
noncomputable def r54_3 (k : KT R) : KT R := fun fr H => opn 8 fr (fun s0 s1 s4 s5 s7 s8 s9 s16 => 
(k [s0, s1, s4, s8, s7, s8, s9, s16] H : R))
noncomputable def r54_2 (k : KT R) : KT R := fun fr H => opn 8 fr (fun s0 s1 s4 s5 s7 s8 s9 s16 => 
(qLss X 3 s8 s7 fun v9 =>
k [s0, s1, s4, s5, s7, s8, v9, s16] H : R))
noncomputable def l54_5 (C : CallF) (k1 : KT R) (kr : KT R) : KT R → KT R := fun k2 => (r54_2 (qCd (sel 6) (fun k5 => k5) (fun _ => k1) (qBl (fun k3 => (r54_3 (r54_4 C (qCd (sel 7) (fun _ => (r54_5 kr)) (fun k4 => k4) k3)))) (r54_6 k2))))
noncomputable def r54_1 (k : KT R) : KT R := fun fr H => opn 8 fr (fun s0 s1 s4 s5 s7 s8 s9 s16 => 
(qLenL s0 fun v7 =>
k [s0, s1, s4, s5, v7, (.int .i64 0), s9, s16] H : R))
noncomputable def r54_0 (k : KT R) : KT R := fun fr H => opn 8 fr (fun s0 s1 s4 s5 s7 s8 s9 s16 => 
(k [s0, s1, (.int .i64 0), s5, s7, s8, s9, s16] H : R))
noncomputable def c54 (C : CallF) (l0 : List AV) (H : AH) (k : AV → AH → R) : R := opn 2 l0 (fun x0 x1 => (qFn (fun kr => (r54_0 (r54_1 (qBl (fun k1 => (qLoop (l54_5 C k1 kr))) (r54_7 kr)))))
(fun fr H => k (sel 2 fr) H) [x0, x1, Aes.undef, Aes.undef, Aes.undef, Aes.undef, Aes.undef, Aes.undef] H : R))
/- slices.IndexFunc[[]refectory/api.Arg,refectory/api.Arg] -/
noncomputable def r55_7 (k : KT R) : KT R := fun fr H => opn 8 fr (fun s0 s1 s4 s5 s7 s8 s9 s16 => 
(k [s0, s1, (.int .i64 (-1)), s5, s7, s8, s9, s16] H : R))
noncomputable def r55_6 (k : KT R) : KT R := fun fr H => opn 8 fr (fun s0 s1 s4 s5 s7 s8 s9 s16 => 
(qAdd X 3 s8 (.int .i64 1) fun v18 =>
k [s0, s1, s4, s5, s7, v18, s9, s16] H : R))
noncomputable def r55_5 (k : KT R) : KT R := fun fr H => opn 8 fr (fun s0 s1 s4 s5 s7 s8 s9 s16 => 
(k [s0, s1, s5, s5, s7, s8, s9, s16] H : R))
noncomputable def r55_4 (C : CallF) (k : KT R) : KT R := fun fr H => opn 8 fr (fun s0 s1 s4 s5 s7 s8 s9 s16 => 
(qIa 5 s0 s5 fun v14 =>
qLdA 5 v14 H fun v15 =>
qCallV C s1 [v15] H fun v16 H =>
k [s0, s1, s4, s5, s7, s8, s9, v16] H : R))
noncomputable def r55_3 (k : KT R) : KT R := fun fr H => opn 8 fr (fun s0 s1 s4 s5 s7 s8 s9 s16 => 
(k [s0, s1, s4, s8, s7, s8, s9, s16] H : R))
noncomputable def r55_2 (k : KT R) : KT R := fun fr H => opn 8 fr (fun s0 s1 s4 s5 s7 s8 s9 s16 => 
(qLss X 3 s8 s7 fun v9 =>
k [s0, s1, s4, s5, s7, s8, v9, s16] H : R))
noncomputable def l55_5 (C : CallF) (k1 : KT R) (kr : KT R) : KT R → KT R := fun k2 => (r55_2 (qCd (sel 6) (fun k5 => k5) (fun _ => k1) (qBl (fun k3 => (r55_3 (r55_4 C (qCd (sel 7) (fun _ => (r55_5 kr)) (fun k4 => k4) k3)))) (r55_6 k2))))
noncomputable def r55_1 (k : KT R) : KT R := fun fr H => opn 8 fr (fun s0 s1 s4 s5 s7 s8 s9 s16 => 
(qLenL s0 fun v7 =>
k [s0, s1, s4, s5, v7, (.int .i64 0), s9, s16] H : R))
noncomputable def r55_0 (k : KT R) : KT R := fun fr H => opn 8 fr (fun s0 s1 s4 s5 s7 s8 s9 s16 => 
(k [s0, s1, (.int .i64 0), s5, s7, s8, s9, s16] H : R))
noncomputable def c55 (C : CallF) (l0 : List AV) (H : AH) (k : AV → AH → R) : R := opn 2 l0 (fun x0 x1 => (qFn (fun kr => (r55_0 (r55_1 (qBl (fun k1 => (qLoop (l55_5 C k1 kr))) (r55_7 kr)))))
(fun fr H => k (sel 2 fr) H) [x0, x1, Aes.undef, Aes.undef, Aes.undef, Aes.undef, Aes.undef, Aes.undef] H : R))
/- (*refectory/collect.gather).says$1 -/
noncomputable def r56_1 (k : KT R) : KT R := fun fr H => opn 3 fr (fun s0 s1 s2 => 
(qFa 0 s1 fun v3 =>
qLd v3 H fun v4 =>
qEql X 9 v4 (.str [105,102]) fun v5 =>
k [s0, s1, v5] H : R))
noncomputable def r56_0 (k : KT R) : KT R := fun fr H => opn 3 fr (fun s0 s1 s2 => 
(qBox s0 H fun v1 H =>
k [s0, v1, (.bool false)] H : R))
noncomputable def c56 (C : CallF) (l0 : List AV) (H : AH) (k : AV → AH → R) : R := opn 1 l0 (fun x0 => (qFn (fun kr => (r56_0 (r56_1 kr)))
(fun fr H => k (sel 2 fr) H) [x0, Aes.undef, Aes.undef] H : R))
/- refectory/jval.Get -/
noncomputable def r57_7 (k : KT R) : KT R := fun fr H => opn 12 fr (fun s0 s1 s2 s4 s5 s6 s7 s9 s10 s11 s12 s30 => 
(qBld z30 [] fun v37 =>
qSt 4 s4 v37 H fun _ H =>
k [s0, s1, s2, s4, (.bool false), s6, s7, s9, s10, s11, s12, s30] H : R))
noncomputable def r57_6 (k : KT R) : KT R := fun fr H => opn 12 fr (fun s0 s1 s2 s4 s5 s6 s7 s9 s10 s11 s12 s30 => 
(qAdd X 3 s11 (.int .i64 1) fun v36 =>
k [s0, s1, s2, s4, s5, s6, s7, s9, s10, v36, s12, s30] H : R))
noncomputable def r57_5 (k : KT R) : KT R := fun fr H => opn 12 fr (fun s0 s1 s2 s4 s5 s6 s7 s9 s10 s11 s12 s30 => 
(qFa 3 s2 fun v31 =>
qLd v31 H fun v32 =>
qIa 4 v32 s6 fun v34 =>
qLdA 4 v34 H fun v35 =>
qSt 4 s4 v35 H fun _ H =>
k [s0, s1, s2, s4, (.bool true), s6, s7, s9, s10, s11, s12, s30] H : R))
noncomputable def r57_4 (k : KT R) : KT R := fun fr H => opn 12 fr (fun s0 s1 s2 s4 s5 s6 s7 s9 s10 s11 s12 s30 => 
(qFa 0 s2 fun v16 =>
qLd v16 H fun v17 =>
qEql X 3 v17 (.int .i64 8) fun v18 =>
qG v18 true (fun k => k s7 H) H fun v20 H =>
qG v18 true (fun k => k s1 H) H fun v21 H =>
qG v18 true (fun k => qEql X 9 v20 v21 fun v => k v H) H fun v22 H =>
qPick v18 v22 (.bool false) fun v23 =>
qG v23 true (fun k => k s6 H) H fun v25 H =>
qG v23 true (fun k => qFa 3 s2 fun v => k v H) H fun v26 H =>
qG v23 true (fun k => qLd v26 H fun v => k v H) H fun v27 H =>
qG v23 true (fun k => qLenL v27 fun v => k v H) H fun v28 H =>
qG v23 true (fun k => qLss X 3 v25 v28 fun v => k v H) H fun v29 H =>
qPick v23 v29 (.bool false) fun v30 =>
k [s0, s1, s2, s4, s5, s6, s7, s9, s10, s11, s12, v30] H : R))
noncomputable def r57_3 (k : KT R) : KT R := fun fr H => opn 12 fr (fun s0 s1 s2 s4 s5 s6 s7 s9 s10 s11 s12 s30 => 
(qIa 1 s9 s11 fun v14 =>
qLd v14 H fun v15 =>
k [s0, s1, s2, s4, s5, s11, v15, s9, s10, s11, s12, s30] H : R))
noncomputable def r57_2 (k : KT R) : KT R := fun fr H => opn 12 fr (fun s0 s1 s2 s4 s5 s6 s7 s9 s10 s11 s12 s30 => 
(qLss X 3 s11 s10 fun v12 =>
k [s0, s1, s2, s4, s5, s6, s7, s9, s10, s11, v12, s30] H : R))
noncomputable def l57_5 (k1 : KT R) (kr : KT R) : KT R → KT R := fun k2 => (r57_2 (qCd (sel 10) (fun k5 => k5) (fun _ => k1) (qBl (fun k3 => (r57_3 (r57_4 (qCd (sel 11) (fun _ => (r57_5 kr)) (fun k4 => k4) k3)))) (r57_6 k2))))
noncomputable def r57_1 (k : KT R) : KT R := fun fr H => opn 12 fr (fun s0 s1 s2 s4 s5 s6 s7 s9 s10 s11 s12 s30 => 
(qFa 2 s2 fun v8 =>
qLd v8 H fun v9 =>
qLenL v9 fun v10 =>
k [s0, s1, s2, s4, s5, s6, s7, v9, v10, (.int .i64 0), s12, s30] H : R))
noncomputable def r57_0 (k : KT R) : KT R := fun fr H => opn 12 fr (fun s0 s1 s2 s4 s5 s6 s7 s9 s10 s11 s12 s30 => 
(qBox s0 H fun v2 H =>
qNew (.cells z30) .ptr H fun v4 H =>
k [s0, s1, v2, v4, (.bool false), s6, s7, s9, s10, s11, s12, s30] H : R))
noncomputable def c57 (C : CallF) (l0 : List AV) (H : AH) (k : AV → AH → R) : R := opn 2 l0 (fun x0 x1 => (qFn (fun kr => (r57_0 (r57_1 (qBl (fun k1 => (qLoop (l57_5 k1 kr))) (r57_7 kr)))))
(fun fr H => qPtr (sel 3 fr) (qLdA 4 (sel 3 fr) H fun w0 => k (.tup [w0, (sel 4 fr)]) H)) [x0, x1, Aes.undef, Aes.undef, Aes.undef, Aes.undef, Aes.undef, Aes.undef, Aes.undef, Aes.undef, Aes.undef, Aes.undef] H : R))
/- slices.Index[[]string,string] -/
noncomputable def r58_7 (k : KT R) : KT R := fun fr H => opn 8 fr (fun s0 s1 s4 s5 s7 s8 s9 s16 => 
(k [s0, s1, (.int .i64 (-1)), s5, s7, s8, s9, s16] H : R))
noncomputable def r58_6 (k : KT R) : KT R := fun fr H => opn 8 fr (fun s0 s1 s4 s5 s7 s8 s9 s16 => 
(qAdd X 3 s8 (.int .i64 1) fun v18 =>
k [s0, s1, s4, s5, s7, v18, s9, s16] H : R))
noncomputable def r58_5 (k : KT R) : KT R := fun fr H => opn 8 fr (fun s0 s1 s4 s5 s7 s8 s9 s16 => 
(k [s0, s1, s5, s5, s7, s8, s9, s16] H : R))
noncomputable def r58_4 (k : KT R) : KT R := fun fr H => opn 8 fr (fun s0 s1 s4 s5 s7 s8 s9 s16 => 
(qIa 1 s0 s5 fun v14 =>
qLd v14 H fun v15 =>
qEql X 9 s1 v15 fun v16 =>
k [s0, s1, s4, s5, s7, s8, s9, v16] H : R))
noncomputable def r58_3 (k : KT R) : KT R := fun fr H => opn 8 fr (fun s0 s1 s4 s5 s7 s8 s9 s16 => 
(k [s0, s1, s4, s8, s7, s8, s9, s16] H : R))
noncomputable def r58_2 (k : KT R) : KT R := fun fr H => opn 8 fr (fun s0 s1 s4 s5 s7 s8 s9 s16 => 
(qLss X 3 s8 s7 fun v9 =>
k [s0, s1, s4, s5, s7, s8, v9, s16] H : R))
noncomputable def l58_5 (k1 : KT R) (kr : KT R) : KT R → KT R := fun k2 => (r58_2 (qCd (sel 6) (fun k5 => k5) (fun _ => k1) (qBl (fun k3 => (r58_3 (r58_4 (qCd (sel 7) (fun _ => (r58_5 kr)) (fun k4 => k4) k3)))) (r58_6 k2))))
noncomputable def r58_1 (k : KT R) : KT R := fun fr H => opn 8 fr (fun s0 s1 s4 s5 s7 s8 s9 s16 => 
(qLenL s0 fun v7 =>
k [s0, s1, s4, s5, v7, (.int .i64 0), s9, s16] H : R))
noncomputable def r58_0 (k : KT R) : KT R := fun fr H => opn 8 fr (fun s0 s1 s4 s5 s7 s8 s9 s16 => 
(k [s0, s1, (.int .i64 0), s5, s7, s8, s9, s16] H : R))
noncomputable def c58 (C : CallF) (l0 : List AV) (H : AH) (k : AV → AH → R) : R := opn 2 l0 (fun x0 x1 => (qFn (fun kr => (r58_0 (r58_1 (qBl (fun k1 => (qLoop (l58_5 k1 kr))) (r58_7 kr)))))
(fun fr H => k (sel 2 fr) H) [x0, x1, Aes.undef, Aes.undef, Aes.undef, Aes.undef, Aes.undef, Aes.undef] H : R))
/- refectory/schema.Find -/
noncomputable def r59_6 (k : KT R) : KT R := fun fr H => opn 9 fr (fun s0 s1 s2 s3 s4 s5 s6 s11 s19 => 
(qBld z82 [] fun v24 =>
qSt 5 s4 v24 H fun _ H =>
k [s0, s1, s2, s3, s4, (.bool false), s6, s11, s19] H : R))
noncomputable def r59_3 (k : KT R) : KT R := fun fr H => opn 9 fr (fun s0 s1 s2 s3 s4 s5 s6 s11 s19 => 
(qFa 2 s2 fun v14 =>
qLd v14 H fun v15 =>
qIa 5 v15 s6 fun v17 =>
qLdA 5 v17 H fun v18 =>
qSt 5 s4 v18 H fun _ H =>
k [s0, s1, s2, s3, s4, (.bool true), s6, s11, s19] H : R))
noncomputable def r59_5 (k : KT R) : KT R := fun fr H => opn 9 fr (fun s0 s1 s2 s3 s4 s5 s6 s11 s19 => 
(qLd s3 H fun v22 =>
qBld z82 [(0, 1, (.int .i64 1)), (1, 1, v22)] fun v23 =>
qSt 5 s4 v23 H fun _ H =>
k [s0, s1, s2, s3, s4, (.bool true), s6, s11, s19] H : R))
noncomputable def r59_4 (C : CallF) (k : KT R) : KT R := fun fr H => opn 9 fr (fun s0 s1 s2 s3 s4 s5 s6 s11 s19 => 
(qLd s3 H fun v20 =>
qRes (C 71 [v20] H) fun v21 H =>
k [s0, s1, s2, s3, s4, s5, s6, s11, v21] H : R))
noncomputable def r59_2 (k : KT R) : KT R := fun fr H => opn 9 fr (fun s0 s1 s2 s3 s4 s5 s6 s11 s19 => 
(qGeq X 3 s6 (.int .i64 0) fun v13 =>
k [s0, s1, s2, s3, s4, s5, s6, v13, s19] H : R))
noncomputable def r59_1 (C : CallF) (k : KT R) : KT R := fun fr H => opn 9 fr (fun s0 s1 s2 s3 s4 s5 s6 s11 s19 => 
(qFa 2 s2 fun v7 =>
qLd v7 H fun v8 =>
qRes (C 69 [v8, (.fn (.func 70) [] [s3])] H) fun v10 H =>
k [s0, s1, s2, s3, s4, s5, v10, s11, s19] H : R))
noncomputable def r59_0 (k : KT R) : KT R := fun fr H => opn 9 fr (fun s0 s1 s2 s3 s4 s5 s6 s11 s19 => 
(qBox s0 H fun v2 H =>
qBox s1 H fun v3 H =>
qNew (.cells z82) .ptr H fun v4 H =>
k [s0, s1, v2, v3, v4, (.bool false), s6, s11, s19] H : R))
noncomputable def c59 (C : CallF) (l0 : List AV) (H : AH) (k : AV → AH → R) : R := opn 2 l0 (fun x0 x1 => (qFn (fun kr => (r59_0 (r59_1 C (qBl (fun k1 => (r59_2 (qCd (sel 7) (fun _ => (r59_3 kr)) (fun k2 => (r59_4 C (qCd (sel 8) (fun _ => (r59_5 kr)) (fun k3 => k3) k2))) k1))) (r59_6 kr)))))
(fun fr H => qPtr (sel 4 fr) (qLdA 5 (sel 4 fr) H fun w0 => k (.tup [w0, (sel 5 fr)]) H)) [x0, x1, Aes.undef, Aes.undef, Aes.undef, Aes.undef, Aes.undef, Aes.undef, Aes.undef] H : R))
/- refectory/schema.Kind -/
noncomputable def r60_2 (k : KT R) : KT R := fun fr H => opn 5 fr (fun s0 s1 s2 s4 s5 => 
(qFa 0 s5 fun v13 =>
qLd v13 H fun v14 =>
k [s0, s1, s2, v14, s5] H : R))
noncomputable def r60_1 (C : CallF) (k : KT R) : KT R := fun fr H => opn 5 fr (fun s0 s1 s2 s4 s5 => 
(qLdA 3 s2 H fun v8 =>
qRes (C 59 [v8, s1] H) fun v10 H =>
qExt v10 0 fun v11 =>
qExt v10 1 fun v12 =>
qNew (.cells z82) .ptr H fun v5 H =>
qSt 5 v5 v11 H fun _ H =>
k [s0, s1, s2, s4, v5] H : R))
noncomputable def r60_0 (k : KT R) : KT R := fun fr H => opn 5 fr (fun s0 s1 s2 s4 s5 => 
(qBox s0 H fun v2 H =>
k [s0, s1, v2, (.int .i64 0), s5] H : R))
noncomputable def c60 (C : CallF) (l0 : List AV) (H : AH) (k : AV → AH → R) : R := opn 2 l0 (fun x0 x1 => (qFn (fun kr => (r60_0 (r60_1 C (r60_2 kr))))
(fun fr H => k (sel 3 fr) H) [x0, x1, Aes.undef, Aes.undef, Aes.undef] H : R))
/- refectory/refectoryref06.sel -/
noncomputable def r61_18 (k : KT R) : KT R := fun fr H => opn 11 fr (fun s0 s1 s4 s5 s6 s7 s10 s15 s29 s43 s52 => 
(qLdA 7 s7 H fun v64 =>
qSt 7 s4 v64 H fun _ H =>
k [s0, s1, s4, s5, s6, s7, s10, s15, s29, s43, s52] H : R))
noncomputable def r61_17 (C : CallF) (k : KT R) : KT R := fun fr H => opn 11 fr (fun s0 s1 s4 s5 s6 s7 s10 s15 s29 s43 s52 => 
(qAdd X 3 s1 (.int .i64 1) fun v61 =>
qRes (C 42 [s0, v61] H) fun v62 H =>
qFa 6 s7 fun v63 =>
qSt 1 v63 v62 H fun _ H =>
k [s0, s1, s4, s5, s6, s7, s10, s15, s29, s43, s52] H : R))
noncomputable def r61_16 (C : CallF) (k : KT R) : KT R := fun fr H => opn 11 fr (fun s0 s1 s4 s5 s6 s7 s10 s15 s29 s43 s52 => 
(qRes (C 44 [s0] H) fun v57 H =>
qFa 5 s7 fun v58 =>
qSt 1 v58 v57 H fun _ H =>
k [s0, s1, s4, s5, s6, s7, s10, s15, s29, s43, s52] H : R))
noncomputable def r61_15 (C : CallF) (k : KT R) : KT R := fun fr H => opn 11 fr (fun s0 s1 s4 s5 s6 s7 s10 s15 s29 s43 s52 => 
(qRes (C 30 [s0] H) fun v54 H =>
qFa 3 s7 fun v55 =>
qSt 1 v55 v54 H fun _ H =>
k [s0, s1, s4, s5, s6, s7, s10, s15, s29, s43, s52] H : R))
noncomputable def r61_14 (C : CallF) (k : KT R) : KT R := fun fr H => opn 11 fr (fun s0 s1 s4 s5 s6 s7 s10 s15 s29 s43 s52 => 
(qRes (C 17 [s0, (.int .i64 1), (.str [111,110])] H) fun v52 H =>
k [s0, s1, s4, s5, s6, s7, s10, s15, s29, s43, v52] H : R))
noncomputable def r61_13 (k : KT R) : KT R := fun fr H => opn 11 fr (fun s0 s1 s4 s5 s6 s7 s10 s15 s29 s43 s52 => 
(qBld z36 [(0, 1, (.int .i64 3))] fun v50 =>
qNew (.cells z36) .ptr H fun v7 H =>
qSt 7 v7 v50 H fun _ H =>
k [s0, s1, s4, s5, s6, v7, s10, s15, s29, s43, s52] H : R))
noncomputable def r61_12 (C : CallF) (k : KT R) : KT R := fun fr H => opn 11 fr (fun s0 s1 s4 s5 s6 s7 s10 s15 s29 s43 s52 => 
(qRes (C 44 [s0] H) fun v48 H =>
qBld z36 [(0, 1, (.int .i64 2)), (2, 1, s6), (5, 1, v48)] fun v49 =>
qSt 7 s4 v49 H fun _ H =>
k [s0, s1, s4, s5, s6, s7, s10, s15, s29, s43, s52] H : R))
noncomputable def r61_11 (C : CallF) (k : KT R) : KT R := fun fr H => opn 11 fr (fun s0 s1 s4 s5 s6 s7 s10 s15 s29 s43 s52 => 
(qRes (C 30 [s0] H) fun v45 H =>
k [s0, s1, s4, s5, v45, s7, s10, s15, s29, s43, s52] H : R))
noncomputable def r61_10 (C : CallF) (k : KT R) : KT R := fun fr H => opn 11 fr (fun s0 s1 s4 s5 s6 s7 s10 s15 s29 s43 s52 => 
(qRes (C 26 [s0] H) fun v37 H =>
qEql X 3 v37 (.int .i64 1) fun v38 =>
qG v38 true (fun k => k s0 H) H fun v40 H =>
qG v38 true (fun k => qRes (C 27 [v40, (.int .i64 1), (.str [111,110])] H) k) H fun v41 H =>
qG v38 true (fun k => qNot v41 fun v => k v H) H fun v42 H =>
qPick v38 v42 (.bool false) fun v43 =>
k [s0, s1, s4, s5, s6, s7, s10, s15, s29, v43, s52] H : R))
noncomputable def r61_9 (k : KT R) : KT R := fun fr H => opn 11 fr (fun s0 s1 s4 s5 s6 s7 s10 s15 s29 s43 s52 => 
(qLdA 7 s5 H fun v35 =>
qSt 7 s4 v35 H fun _ H =>
k [s0, s1, s4, s5, s6, s7, s10, s15, s29, s43, s52] H : R))
noncomputable def r61_8 (C : CallF) (k : KT R) : KT R := fun fr H => opn 11 fr (fun s0 s1 s4 s5 s6 s7 s10 s15 s29 s43 s52 => 
(qAdd X 3 s1 (.int .i64 1) fun v32 =>
qRes (C 42 [s0, v32] H) fun v33 H =>
qFa 6 s5 fun v34 =>
qSt 1 v34 v33 H fun _ H =>
k [s0, s1, s4, s5, s6, s7, s10, s15, s29, s43, s52] H : R))
noncomputable def r61_7 (C : CallF) (k : KT R) : KT R := fun fr H => opn 11 fr (fun s0 s1 s4 s5 s6 s7 s10 s15 s29 s43 s52 => 
(qRes (C 27 [s0, (.int .i64 5), (.str [123])] H) fun v29 H =>
k [s0, s1, s4, s5, s6, s7, s10, s15, v29, s43, s52] H : R))
noncomputable def r61_6 (C : CallF) (k : KT R) : KT R := fun fr H => opn 11 fr (fun s0 s1 s4 s5 s6 s7 s10 s15 s29 s43 s52 => 
(qRes (C 44 [s0] H) fun v26 H =>
qFa 5 s5 fun v27 =>
qSt 1 v27 v26 H fun _ H =>
k [s0, s1, s4, s5, s6, s7, s10, s15, s29, s43, s52] H : R))
noncomputable def r61_5 (C : CallF) (k : KT R) : KT R := fun fr H => opn 11 fr (fun s0 s1 s4 s5 s6 s7 s10 s15 s29 s43 s52 => 
(qRes (C 63 [s0] H) fun v23 H =>
qFa 4 s5 fun v24 =>
qSt 1 v24 v23 H fun _ H =>
k [s0, s1, s4, s5, s6, s7, s10, s15, s29, s43, s52] H : R))
noncomputable def r61_4 (C : CallF) (k : KT R) : KT R := fun fr H => opn 11 fr (fun s0 s1 s4 s5 s6 s7 s10 s15 s29 s43 s52 => 
(qFa 2 s5 fun v16 =>
qLd v16 H fun v17 =>
qFa 1 s5 fun v20 =>
qRes (C 30 [s0] H) fun v19 H =>
qLd v16 H fun w => qSame v17 w (qSt 1 v20 v17 H fun _ H =>
qFa 2 s5 fun v21 =>
qSt 1 v21 v19 H fun _ H =>
k [s0, s1, s4, s5, s6, s7, s10, s15, s29, s43, s52] H) : R))
noncomputable def r61_3 (C : CallF) (k : KT R) : KT R := fun fr H => opn 11 fr (fun s0 s1 s4 s5 s6 s7 s10 s15 s29 s43 s52 => 
(qRes (C 17 [s0, (.int .i64 5), (.str [58])] H) fun v15 H =>
k [s0, s1, s4, s5, s6, s7, s10, v15, s29, s43, s52] H : R))
noncomputable def r61_2 (C : CallF) (k : KT R) : KT R := fun fr H => opn 11 fr (fun s0 s1 s4 s5 s6 s7 s10 s15 s29 s43 s52 => 
(qRes (C 30 [s0] H) fun v12 H =>
qBld z36 [(0, 1, (.int .i64 1)), (2, 1, v12)] fun v13 =>
qNew (.cells z36) .ptr H fun v5 H =>
qSt 7 v5 v13 H fun _ H =>
k [s0, s1, s4, v5, s6, s7, s10, s15, s29, s43, s52] H : R))
noncomputable def r61_1 (C : CallF) (k : KT R) : KT R := fun fr H => opn 11 fr (fun s0 s1 s4 s5 s6 s7 s10 s15 s29 s43 s52 => 
(qRes (C 17 [s0, (.int .i64 5), (.str [46,46,46])] H) fun v9 H =>
qNot v9 fun v10 =>
k [s0, s1, s4, s5, s6, s7, v10, s15, s29, s43, s52] H : R))
noncomputable def r61_0 (k : KT R) : KT R := fun fr H => opn 11 fr (fun s0 s1 s4 s5 s6 s7 s10 s15 s29 s43 s52 => 
(qNew (.cells z36) .ptr H fun v4 H =>
k [s0, s1, v4, s5, s6, s7, s10, s15, s29, s43, s52] H : R))
noncomputable def c61 (C : CallF) (l0 : List AV) (H : AH) (k : AV → AH → R) : R := opn 2 l0 (fun x0 x1 => (qFn (fun kr => (r61_0 (r61_1 C (qCd (sel 6) (fun _ => (r61_2 C (r61_3 C (qCd (sel 7) (fun k5 => (r61_4 C k5)) (fun k5 => k5) (r61_5 C (r61_6 C (r61_7 C (qCd (sel 8) (fun k4 => (r61_8 C k4)) (fun k4 => k4) (r61_9 kr))))))))) (fun k3 => k3) (r61_10 C (qCd (sel 9) (fun _ => (r61_11 C (r61_12 C kr))) (fun k2 => k2) (r61_13 (r61_14 C (qCd (sel 10) (fun k1 => (r61_15 C k1)) (fun k1 => k1) (r61_16 C (r61_17 C (r61_18 kr))))))))))))
(fun fr H => qPtr (sel 2 fr) (qLdA 7 (sel 2 fr) H fun w0 => k w0 H)) [x0, x1, Aes.undef, Aes.undef, Aes.undef, Aes.undef, Aes.undef, Aes.undef, Aes.undef, Aes.undef, Aes.undef] H : R))
/- (*refectory/refectoryref05.P).Value -/
noncomputable def r62_15 (k : KT R) : KT R := fun fr H => opn 10 fr (fun s0 s1 s4 s5 s6 s13 s19 s49 s61 s68 => 
(qBld z30 [] fun v77 =>
qSt 4 s4 v77 H fun _ H =>
k [s0, s1, s4, s5, s6, s13, s19, s49, s61, s68] H : R))
noncomputable def r62_14 (C : CallF) (k : KT R) : KT R := fun fr H => opn 10 fr (fun s0 s1 s4 s5 s6 s13 s19 s49 s61 s68 => 
(qRes (C 29 [s0] H) fun v76 H =>
k [s0, s1, s4, s5, s6, s13, s19, s49, s61, s68] H : R))
noncomputable def r62_4 (C : CallF) (k : KT R) : KT R := fun fr H => opn 10 fr (fun s0 s1 s4 s5 s6 s13 s19 s49 s61 s68 => 
(qRes (C 30 [s0] H) fun v17 H =>
qRes (C 72 [v17] H) fun v18 H =>
qSt 4 s4 v18 H fun _ H =>
k [s0, s1, s4, s5, s6, s13, s19, s49, s61, s68] H : R))
noncomputable def r62_7 (k : KT R) : KT R := fun fr H => opn 10 fr (fun s0 s1 s4 s5 s6 s13 s19 s49 s61 s68 => 
(qBld z152 [(0, 1, (.int .i64 0)), (1, 1, (.int .i64 0)), (2, 1, (.int .i64 3)), (3, 1, (.int .i64 4)), (4, 1, (.int .i64 5))] fun v37 =>
qO (indexOf X 152 v37 s6) fun v39 =>
qNc s0 fun v41 =>
qFa 0 v41 fun v42 =>
qLd v42 H fun v43 =>
qIa 3 v43 s5 fun v45 =>
qFa 1 v45 fun v46 =>
qLd v46 H fun v47 =>
qBld z30 [(0, 1, v39), (1, 1, v47)] fun v48 =>
qSt 4 s4 v48 H fun _ H =>
k [s0, s1, s4, s5, s6, s13, s19, s49, s61, s68] H : R))
noncomputable def r62_6 (k : KT R) : KT R := fun fr H => opn 10 fr (fun s0 s1 s4 s5 s6 s13 s19 s49 s61 s68 => 
(qNc s0 fun v31 =>
qFa 1 v31 fun v32 =>
qLd v32 H fun v33 =>
qAdd X 3 v33 (.int .i64 1) fun v34 =>
qNc s0 fun v35 =>
qFa 1 v35 fun v36 =>
qSt 1 v36 v34 H fun _ H =>
k [s0, s1, s4, s5, s6, s13, s19, s49, s61, s68] H : R))
noncomputable def r62_9 (C : CallF) (k : KT R) : KT R := fun fr H => opn 10 fr (fun s0 s1 s4 s5 s6 s13 s19 s49 s61 s68 => 
(qRes (C 30 [s0] H) fun v59 H =>
qBld z30 [(0, 1, (.int .i64 9)), (1, 1, v59)] fun v60 =>
qSt 4 s4 v60 H fun _ H =>
k [s0, s1, s4, s5, s6, s13, s19, s49, s61, s68] H : R))
noncomputable def r62_11 (C : CallF) (k : KT R) : KT R := fun fr H => opn 10 fr (fun s0 s1 s4 s5 s6 s13 s19 s49 s61 s68 => 
(qRes (C 73 [s0, (.int .i64 7), (.str [93]), s1, s5] H) fun v67 H =>
qSt 4 s4 v67 H fun _ H =>
k [s0, s1, s4, s5, s6, s13, s19, s49, s61, s68] H : R))
noncomputable def r62_13 (C : CallF) (k : KT R) : KT R := fun fr H => opn 10 fr (fun s0 s1 s4 s5 s6 s13 s19 s49 s61 s68 => 
(qRes (C 73 [s0, (.int .i64 8), (.str [125]), s1, s5] H) fun v74 H =>
qSt 4 s4 v74 H fun _ H =>
k [s0, s1, s4, s5, s6, s13, s19, s49, s61, s68] H : R))
noncomputable def r62_12 (C : CallF) (k : KT R) : KT R := fun fr H => opn 10 fr (fun s0 s1 s4 s5 s6 s13 s19 s49 s61 s68 => 
(qRes (C 17 [s0, (.int .i64 5), (.str [123])] H) fun v70 H =>
k [s0, s1, s4, s5, s6, s13, s19, s49, s61, v70] H : R))
noncomputable def r62_10 (C : CallF) (k : KT R) : KT R := fun fr H => opn 10 fr (fun s0 s1 s4 s5 s6 s13 s19 s49 s61 s68 => 
(qRes (C 17 [s0, (.int .i64 5), (.str [91])] H) fun v63 H =>
k [s0, s1, s4, s5, s6, s13, s19, s49, v63, s68] H : R))
noncomputable def r62_8 (C : CallF) (k : KT R) : KT R := fun fr H => opn 10 fr (fun s0 s1 s4 s5 s6 s13 s19 s49 s61 s68 => 
(qNc s0 fun v51 =>
qFa 4 v51 fun v52 =>
qLd v52 H fun v53 =>
qG v53 true (fun k => k s0 H) H fun v55 H =>
qG v53 true (fun k => qRes (C 17 [v55, (.int .i64 5), (.str [36])] H) k) H fun v56 H =>
qPick v53 v56 (.bool false) fun v57 =>
k [s0, s1, s4, s5, s6, s13, s19, v57, s61, s68] H : R))
noncomputable def r62_5 (k : KT R) : KT R := fun fr H => opn 10 fr (fun s0 s1 s4 s5 s6 s13 s19 s49 s61 s68 => 
(qEql X 3 s6 (.int .i64 2) fun v21 =>
qG v21 false (fun k => k s6 H) H fun v23 H =>
qG v21 false (fun k => qEql X 3 v23 (.int .i64 3) fun v => k v H) H fun v24 H =>
qPick v21 (.bool true) v24 fun v25 =>
qG v25 false (fun k => k s6 H) H fun v27 H =>
qG v25 false (fun k => qEql X 3 v27 (.int .i64 4) fun v => k v H) H fun v28 H =>
qPick v25 (.bool true) v28 fun v29 =>
k [s0, s1, s4, s5, s6, s13, v29, s49, s61, s68] H : R))
noncomputable def r62_3 (k : KT R) : KT R := fun fr H => opn 10 fr (fun s0 s1 s4 s5 s6 s13 s19 s49 s61 s68 => 
(qEql X 3 s6 (.int .i64 1) fun v15 =>
k [s0, s1, s4, s5, s6, v15, s19, s49, s61, s68] H : R))
noncomputable def r62_2 (C : CallF) (k : KT R) : KT R := fun fr H => opn 10 fr (fun s0 s1 s4 s5 s6 s13 s19 s49 s61 s68 => 
(qRes (C 26 [s0] H) fun v12 H =>
k [s0, s1, s4, s5, v12, s13, s19, s49, s61, s68] H : R))
noncomputable def r62_1 (k : KT R) : KT R := fun fr H => opn 10 fr (fun s0 s1 s4 s5 s6 s13 s19 s49 s61 s68 => 
(qNc s0 fun v8 =>
qFa 1 v8 fun v9 =>
qLd v9 H fun v10 =>
k [s0, s1, s4, v10, s6, s13, s19, s49, s61, s68] H : R))
noncomputable def r62_0 (k : KT R) : KT R := fun fr H => opn 10 fr (fun s0 s1 s4 s5 s6 s13 s19 s49 s61 s68 => 
(qNew (.cells z30) .ptr H fun v4 H =>
k [s0, s1, v4, s5, s6, s13, s19, s49, s61, s68] H : R))
noncomputable def c62 (C : CallF) (l0 : List AV) (H : AH) (k : AV → AH → R) : R := opn 2 l0 (fun x0 x1 => (qFn (fun kr => (r62_0 (r62_1 (r62_2 C (qBl (fun k1 => (r62_3 (qCd (sel 5) (fun _ => (r62_4 C kr)) (fun k2 => (r62_5 (qCd (sel 6) (fun _ => (r62_6 (r62_7 kr))) (fun k3 => (r62_8 C (qCd (sel 7) (fun _ => (r62_9 C kr)) (fun k4 => (r62_10 C (qCd (sel 8) (fun _ => (r62_11 C kr)) (fun k5 => (r62_12 C (qCd (sel 9) (fun _ => (r62_13 C kr)) (fun k6 => k6) k5))) k4))) k3))) k2))) k1))) (r62_14 C (r62_15 kr)))))))
(fun fr H => qPtr (sel 2 fr) (qLdA 4 (sel 2 fr) H fun w0 => k w0 H)) [x0, x1, Aes.undef, Aes.undef, Aes.undef, Aes.undef, Aes.undef, Aes.undef, Aes.undef, Aes.undef] H : R))
/- refectory/refectoryref06.args -/
noncomputable def r63_8 (k : KT R) : KT R := fun fr H => opn 6 fr (fun s0 s2 s3 s4 s7 s22 => 
(k [s0, s3, s3, s4, s7, s22] H : R))
noncomputable def r63_7 (C : CallF) (k : KT R) : KT R := fun fr H => opn 6 fr (fun s0 s2 s3 s4 s7 s22 => 
(qRes (C 62 [s0, (.int .i64 1)] H) fun v30 H =>
qBld z38 [(0, 1, s4), (1, 4, v30)] fun v31 =>
qRows z38 1 [(0, v31)] fun v32 =>
qApp 5 88 s3 v32 false none H fun v33 H =>
k [s0, s2, v33, s4, s7, s22] H : R))
noncomputable def r63_6 (C : CallF) (k : KT R) : KT R := fun fr H => opn 6 fr (fun s0 s2 s3 s4 s7 s22 => 
(qRes (C 28 [s0, (.str [58])] H) fun v26 H =>
k [s0, s2, s3, s4, s7, s22] H : R))
noncomputable def r63_5 (C : CallF) (k : KT R) : KT R := fun fr H => opn 6 fr (fun s0 s2 s3 s4 s7 s22 => 
(qRes (C 30 [s0] H) fun v24 H =>
k [s0, s2, s3, v24, s7, s22] H : R))
noncomputable def r63_4 (C : CallF) (k : KT R) : KT R := fun fr H => opn 6 fr (fun s0 s2 s3 s4 s7 s22 => 
(qNc s0 fun v9 =>
qFa 2 v9 fun v10 =>
qLd v10 H fun v11 =>
qEql X 56 v11 (.int .i64 0) fun v12 =>
qG v12 true (fun k => k s3 H) H fun v14 H =>
qG v12 true (fun k => qLenL v14 fun v => k v H) H fun v15 H =>
qG v12 true (fun k => qEql X 3 v15 (.int .i64 0) fun v => k v H) H fun v16 H =>
qG v12 true (fun k => k v16 H) H fun v17 H =>
qG v17 false (fun k => k s0 H) H fun v18 H =>
qG v17 false (fun k => qRes (C 17 [v18, (.int .i64 5), (.str [41])] H) k) H fun v19 H =>
qG v17 false (fun k => qNot v19 fun v => k v H) H fun v20 H =>
qG v12 true (fun k => qPick v17 (.bool true) v20 fun v => k v H) H fun v21 H =>
qPick v12 v21 (.bool false) fun v22 =>
k [s0, s2, s3, s4, s7, v22] H : R))
noncomputable def l63_4 (C : CallF) (k1 : KT R) : KT R → KT R := fun k2 => (r63_4 C (qCd (sel 5) (fun k4 => k4) (fun _ => k1) (qBl (fun k3 => (r63_5 C (r63_6 C (r63_7 C k3)))) k2)))
noncomputable def r63_3 (k : KT R) : KT R := fun fr H => opn 6 fr (fun s0 s2 s3 s4 s7 s22 => 
(k [s0, (.sl [] .nil), s3, s4, s7, s22] H : R))
noncomputable def r63_2 (C : CallF) (k : KT R) : KT R := fun fr H => opn 6 fr (fun s0 s2 s3 s4 s7 s22 => 
(qRes (C 17 [s0, (.int .i64 5), (.str [40])] H) fun v6 H =>
qNot v6 fun v7 =>
k [s0, s2, s3, s4, v7, s22] H : R))
noncomputable def r63_1 (k : KT R) : KT R := fun fr H => opn 6 fr (fun s0 s2 s3 s4 s7 s22 => 
(k [s0, s2, (.sl [] .nil), s4, s7, s22] H : R))
noncomputable def r63_0 (k : KT R) : KT R := fun fr H => opn 6 fr (fun s0 s2 s3 s4 s7 s22 => 
(k [s0, (.sl [] .nil), s3, s4, s7, s22] H : R))
noncomputable def c63 (C : CallF) (l0 : List AV) (H : AH) (k : AV → AH → R) : R := opn 1 l0 (fun x0 => (qFn (fun kr => (r63_0 (r63_1 (r63_2 C (qCd (sel 4) (fun _ => (r63_3 kr)) (fun k5 => k5) (qBl (fun k1 => (qLoop (l63_4 C k1))) (r63_8 kr)))))))
(fun fr H => k (sel 1 fr) H) [x0, Aes.undef, Aes.undef, Aes.undef, Aes.undef, Aes.undef] H : R))
/- refectory/refectoryref02.digits -/
noncomputable def r64_4 (k : KT R) : KT R := fun fr H => opn 5 fr (fun s0 s1 s4 s5 s19 => 
(k [s0, s1, s5, s5, s19] H : R))
noncomputable def r64_3 (k : KT R) : KT R := fun fr H => opn 5 fr (fun s0 s1 s4 s5 s19 => 
(qAdd X 3 s5 (.int .i64 1) fun v21 =>
k [s0, s1, s4, v21, s19] H : R))
noncomputable def r64_2 (C : CallF) (k : KT R) : KT R := fun fr H => opn 5 fr (fun s0 s1 s4 s5 s19 => 
(qAdd X 3 s1 s5 fun v8 =>
qLenS s0 fun v10 =>
qLss X 3 v8 v10 fun v11 =>
qG v11 true (fun k => k s0 H) H fun v13 H =>
qG v11 true (fun k => k s1 H) H fun v14 H =>
qG v11 true (fun k => k s5 H) H fun v15 H =>
qG v11 true (fun k => qAdd X 3 v14 v15 fun v => k v H) H fun v16 H =>
qG v11 true (fun k => qIx v13 v16 fun v => k v H) H fun v17 H =>
qG v11 true (fun k => qRes (C 46 [v17] H) k) H fun v18 H =>
qPick v11 v18 (.bool false) fun v19 =>
k [s0, s1, s4, s5, v19] H : R))
noncomputable def l64_4 (C : CallF) (k1 : KT R) : KT R → KT R := fun k2 => (r64_2 C (qCd (sel 4) (fun k4 => k4) (fun _ => k1) (qBl (fun k3 => (r64_3 k3)) k2)))
noncomputable def r64_1 (k : KT R) : KT R := fun fr H => opn 5 fr (fun s0 s1 s4 s5 s19 => 
(k [s0, s1, s4, (.int .i64 0), s19] H : R))
noncomputable def r64_0 (k : KT R) : KT R := fun fr H => opn 5 fr (fun s0 s1 s4 s5 s19 => 
(k [s0, s1, (.int .i64 0), s5, s19] H : R))
noncomputable def c64 (C : CallF) (l0 : List AV) (H : AH) (k : AV → AH → R) : R := opn 2 l0 (fun x0 x1 => (qFn (fun kr => (r64_0 (r64_1 (qBl (fun k1 => (qLoop (l64_4 C k1))) (r64_4 kr)))))
(fun fr H => k (sel 2 fr) H) [x0, x1, Aes.undef, Aes.undef, Aes.undef] H : R))
/- refectory/refectoryref04.block -/
noncomputable def r65_10 (k : KT R) : KT R := fun fr H => opn 10 fr (fun s0 s1 s4 s5 s6 s7 s11 s21 s41 s59 => 
(k [s0, s1, (.str []), s1, (.bool false), s7, s11, s21, s41, s59] H : R))
noncomputable def r65_5 (C : CallF) (k : KT R) : KT R := fun fr H => opn 10 fr (fun s0 s1 s4 s5 s6 s7 s11 s21 s41 s59 => 
(qRes (C 74 [s7] H) fun v36 H =>
qAdd X 3 s1 (.int .i64 3) fun v38 =>
qRes (C 75 [s7] H) fun v40 H =>
k [s0, s1, v36, v38, v40, s7, s11, s21, s41, s59] H : R))
noncomputable def r65_7 (k : KT R) : KT R := fun fr H => opn 10 fr (fun s0 s1 s4 s5 s6 s7 s11 s21 s41 s59 => 
(qAdd X 9 s7 (.str [34,34,34]) fun v56 =>
qAdd X 3 s1 (.int .i64 4) fun v58 =>
k [s0, v58, s4, s5, s6, v56, s11, s21, s41, s59] H : R))
noncomputable def r65_9 (k : KT R) : KT R := fun fr H => opn 10 fr (fun s0 s1 s4 s5 s6 s7 s11 s21 s41 s59 => 
(k [s0, s1, (.str []), s1, (.bool false), s7, s11, s21, s41, s59] H : R))
noncomputable def r65_3 (k : KT R) : KT R := fun fr H => opn 10 fr (fun s0 s1 s4 s5 s6 s7 s11 s21 s41 s59 => 
(qAdd X 3 s1 (.int .i64 1) fun v16 =>
qSlc Try.t9.desc 0 s0 (some s1) (some v16) none fun v17 =>
qAdd X 9 s7 v17 fun v18 =>
qAdd X 3 s1 (.int .i64 1) fun v20 =>
k [s0, v20, s4, s5, s6, v18, s11, s21, s41, s59] H : R))
noncomputable def r65_8 (k : KT R) : KT R := fun fr H => opn 10 fr (fun s0 s1 s4 s5 s6 s7 s11 s21 s41 s59 => 
(qIx s0 s1 fun v62 =>
qLss X 5 v62 (.int .u8 32) fun v63 =>
qG v63 true (fun k => k s0 H) H fun v65 H =>
qG v63 true (fun k => k s1 H) H fun v66 H =>
qG v63 true (fun k => qIx v65 v66 fun v => k v H) H fun v67 H =>
qG v63 true (fun k => qNeq X 5 v67 (.int .u8 9) fun v => k v H) H fun v68 H =>
qPick v63 v68 (.bool false) fun v69 =>
qG v69 true (fun k => k s0 H) H fun v71 H =>
qG v69 true (fun k => k s1 H) H fun v72 H =>
qG v69 true (fun k => qIx v71 v72 fun v => k v H) H fun v73 H =>
qG v69 true (fun k => qNeq X 5 v73 (.int .u8 10) fun v => k v H) H fun v74 H =>
qPick v69 v74 (.bool false) fun v75 =>
qG v75 true (fun k => k s0 H) H fun v77 H =>
qG v75 true (fun k => k s1 H) H fun v78 H =>
qG v75 true (fun k => qIx v77 v78 fun v => k v H) H fun v79 H =>
qG v75 true (fun k => qNeq X 5 v79 (.int .u8 13) fun v => k v H) H fun v80 H =>
qPick v75 v80 (.bool false) fun v81 =>
k [s0, s1, s4, s5, s6, s7, s11, s21, s41, v81] H : R))
noncomputable def r65_6 (k : KT R) : KT R := fun fr H => opn 10 fr (fun s0 s1 s4 s5 s6 s7 s11 s21 s41 s59 => 
(qLenS s0 fun v43 =>
qSub X 3 v43 s1 fun v45 =>
qGeq X 3 v45 (.int .i64 4) fun v46 =>
qG v46 true (fun k => k s0 H) H fun v48 H =>
qG v46 true (fun k => k s1 H) H fun v49 H =>
qG v46 true (fun k => k s1 H) H fun v50 H =>
qG v46 true (fun k => qAdd X 3 v50 (.int .i64 4) fun v => k v H) H fun v51 H =>
qG v46 true (fun k => qSlc Try.t9.desc 0 v48 (some v49) (some v51) none fun v => k v H) H fun v52 H =>
qG v46 true (fun k => qEql X 9 v52 (.str [92,34,34,34]) fun v => k v H) H fun v53 H =>
qPick v46 v53 (.bool false) fun v54 =>
k [s0, s1, s4, s5, s6, s7, s11, s21, v54, s59] H : R))
noncomputable def r65_4 (k : KT R) : KT R := fun fr H => opn 10 fr (fun s0 s1 s4 s5 s6 s7 s11 s21 s41 s59 => 
(qLenS s0 fun v23 =>
qSub X 3 v23 s1 fun v25 =>
qGeq X 3 v25 (.int .i64 3) fun v26 =>
qG v26 true (fun k => k s0 H) H fun v28 H =>
qG v26 true (fun k => k s1 H) H fun v29 H =>
qG v26 true (fun k => k s1 H) H fun v30 H =>
qG v26 true (fun k => qAdd X 3 v30 (.int .i64 3) fun v => k v H) H fun v31 H =>
qG v26 true (fun k => qSlc Try.t9.desc 0 v28 (some v29) (some v31) none fun v => k v H) H fun v32 H =>
qG v26 true (fun k => qEql X 9 v32 (.str [34,34,34]) fun v => k v H) H fun v33 H =>
qPick v26 v33 (.bool false) fun v34 =>
k [s0, s1, s4, s5, s6, s7, s11, v34, s41, s59] H : R))
noncomputable def r65_2 (k : KT R) : KT R := fun fr H => opn 10 fr (fun s0 s1 s4 s5 s6 s7 s11 s21 s41 s59 => 
(qLenS s0 fun v10 =>
qLss X 3 s1 v10 fun v11 =>
k [s0, s1, s4, s5, s6, s7, v11, s21, s41, s59] H : R))
noncomputable def l65_8 (C : CallF) (k1 : KT R) (kr : KT R) : KT R → KT R := fun k2 => (r65_2 (qCd (sel 6) (fun k8 => k8) (fun _ => k1) (qBl (fun k3 => (qBl (fun k4 => (r65_4 (qCd (sel 7) (fun _ => (r65_5 C kr)) (fun k5 => (r65_6 (qCd (sel 8) (fun k6 => (r65_7 k6)) (fun k6 => (r65_8 (qCd (sel 9) (fun _ => (r65_9 kr)) (fun k7 => (r65_3 k7)) k6))) k5))) k4))) k3)) k2)))
noncomputable def r65_1 (k : KT R) : KT R := fun fr H => opn 10 fr (fun s0 s1 s4 s5 s6 s7 s11 s21 s41 s59 => 
(k [s0, s1, s4, s5, s6, (.str []), s11, s21, s41, s59] H : R))
noncomputable def r65_0 (k : KT R) : KT R := fun fr H => opn 10 fr (fun s0 s1 s4 s5 s6 s7 s11 s21 s41 s59 => 
(k [s0, s1, (.str []), (.int .i64 0), (.bool false), s7, s11, s21, s41, s59] H : R))
noncomputable def c65 (C : CallF) (l0 : List AV) (H : AH) (k : AV → AH → R) : R := opn 2 l0 (fun x0 x1 => (qFn (fun kr => (r65_0 (r65_1 (qBl (fun k1 => (qLoop (l65_8 C k1 kr))) (r65_10 kr)))))
(fun fr H => k (.tup [(sel 2 fr), (sel 3 fr), (sel 4 fr)]) H) [x0, x1, Aes.undef, Aes.undef, Aes.undef, Aes.undef, Aes.undef, Aes.undef, Aes.undef, Aes.undef] H : R))
/- refectory/refectoryref01.Unquote -/
noncomputable def r66_15 (k : KT R) : KT R := fun fr H => opn 13 fr (fun s0 s2 s3 s4 s5 s6 s7 s8 s29 s38 s48 s61 s69 => 
(k [s0, s5, (.bool true), s4, s5, s6, s7, s8, s29, s38, s48, s61, s69] H : R))
noncomputable def r66_12 (k : KT R) : KT R := fun fr H => opn 13 fr (fun s0 s2 s3 s4 s5 s6 s7 s8 s29 s38 s48 s61 s69 => 
(qAdd X 9 s5 s7 fun v64 =>
qAdd X 3 s6 (.int .i64 1) fun v66 =>
qAdd X 3 v66 s8 fun v68 =>
k [s0, s2, s3, s4, v64, v68, s7, s8, s29, s38, s48, s61, s69] H : R))
noncomputable def r66_11 (k : KT R) : KT R := fun fr H => opn 13 fr (fun s0 s2 s3 s4 s5 s6 s7 s8 s29 s38 s48 s61 s69 => 
(k [s0, (.str []), (.bool false), s4, s5, s6, s7, s8, s29, s38, s48, s61, s69] H : R))
noncomputable def r66_10 (k : KT R) : KT R := fun fr H => opn 13 fr (fun s0 s2 s3 s4 s5 s6 s7 s8 s29 s38 s48 s61 s69 => 
(qEql X 3 s8 (.int .i64 0) fun v61 =>
k [s0, s2, s3, s4, s5, s6, s7, s8, s29, s38, s48, v61, s69] H : R))
noncomputable def r66_9 (C : CallF) (k : KT R) : KT R := fun fr H => opn 13 fr (fun s0 s2 s3 s4 s5 s6 s7 s8 s29 s38 s48 s61 s69 => 
(qAdd X 3 s6 (.int .i64 1) fun v56 =>
qRes (C 76 [s4, v56] H) fun v57 H =>
qExt v57 0 fun v58 =>
qExt v57 1 fun v59 =>
k [s0, s2, s3, s4, s5, s6, v58, v59, s29, s38, s48, s61, s69] H : R))
noncomputable def r66_14 (k : KT R) : KT R := fun fr H => opn 13 fr (fun s0 s2 s3 s4 s5 s6 s7 s8 s29 s38 s48 s61 s69 => 
(k [s0, (.str []), (.bool false), s4, s5, s6, s7, s8, s29, s38, s48, s61, s69] H : R))
noncomputable def r66_7 (k : KT R) : KT R := fun fr H => opn 13 fr (fun s0 s2 s3 s4 s5 s6 s7 s8 s29 s38 s48 s61 s69 => 
(qAdd X 3 s6 (.int .i64 1) fun v43 =>
qSlc Try.t9.desc 0 s4 (some s6) (some v43) none fun v44 =>
qAdd X 9 s5 v44 fun v45 =>
qAdd X 3 s6 (.int .i64 1) fun v47 =>
k [s0, s2, s3, s4, v45, v47, s7, s8, s29, s38, s48, s61, s69] H : R))
noncomputable def r66_13 (k : KT R) : KT R := fun fr H => opn 13 fr (fun s0 s2 s3 s4 s5 s6 s7 s8 s29 s38 s48 s61 s69 => 
(qIx s4 s6 fun v72 =>
qLss X 5 v72 (.int .u8 32) fun v73 =>
qG v73 false (fun k => k s4 H) H fun v75 H =>
qG v73 false (fun k => k s6 H) H fun v76 H =>
qG v73 false (fun k => qIx v75 v76 fun v => k v H) H fun v77 H =>
qG v73 false (fun k => qEql X 5 v77 (.int .u8 34) fun v => k v H) H fun v78 H =>
qPick v73 (.bool true) v78 fun v79 =>
k [s0, s2, s3, s4, s5, s6, s7, s8, s29, s38, s48, s61, v79] H : R))
noncomputable def r66_8 (k : KT R) : KT R := fun fr H => opn 13 fr (fun s0 s2 s3 s4 s5 s6 s7 s8 s29 s38 s48 s61 s69 => 
(qIx s4 s6 fun v51 =>
qEql X 5 v51 (.int .u8 92) fun v52 =>
k [s0, s2, s3, s4, s5, s6, s7, s8, s29, s38, v52, s61, s69] H : R))
noncomputable def r66_6 (k : KT R) : KT R := fun fr H => opn 13 fr (fun s0 s2 s3 s4 s5 s6 s7 s8 s29 s38 s48 s61 s69 => 
(qLenS s4 fun v37 =>
qLss X 3 s6 v37 fun v38 =>
k [s0, s2, s3, s4, s5, s6, s7, s8, s29, v38, s48, s61, s69] H : R))
noncomputable def l66_8 (C : CallF) (k1 : KT R) (kr : KT R) : KT R → KT R := fun k2 => (r66_6 (qCd (sel 9) (fun k8 => k8) (fun _ => k1) (qBl (fun k3 => (qBl (fun k4 => (r66_8 (qCd (sel 10) (fun k5 => (r66_9 C (r66_10 (qCd (sel 11) (fun _ => (r66_11 kr)) (fun k6 => k6) (r66_12 k5))))) (fun k5 => (r66_13 (qCd (sel 12) (fun _ => (r66_14 kr)) (fun k7 => (r66_7 k7)) k5))) k4))) k3)) k2)))
noncomputable def r66_5 (k : KT R) : KT R := fun fr H => opn 13 fr (fun s0 s2 s3 s4 s5 s6 s7 s8 s29 s38 s48 s61 s69 => 
(k [s0, s2, s3, s4, s5, (.int .i64 0), s7, s8, s29, s38, s48, s61, s69] H : R))
noncomputable def r66_4 (k : KT R) : KT R := fun fr H => opn 13 fr (fun s0 s2 s3 s4 s5 s6 s7 s8 s29 s38 s48 s61 s69 => 
(k [s0, s2, s3, s4, (.str []), s6, s7, s8, s29, s38, s48, s61, s69] H : R))
noncomputable def r66_3 (k : KT R) : KT R := fun fr H => opn 13 fr (fun s0 s2 s3 s4 s5 s6 s7 s8 s29 s38 s48 s61 s69 => 
(qLenS s0 fun v32 =>
qSub X 3 v32 (.int .i64 1) fun v33 =>
qSlc Try.t9.desc 0 s0 (some (.int .i64 1)) (some v33) none fun v34 =>
k [s0, s2, s3, v34, s5, s6, s7, s8, s29, s38, s48, s61, s69] H : R))
noncomputable def r66_2 (k : KT R) : KT R := fun fr H => opn 13 fr (fun s0 s2 s3 s4 s5 s6 s7 s8 s29 s38 s48 s61 s69 => 
(k [s0, (.str []), (.bool false), s4, s5, s6, s7, s8, s29, s38, s48, s61, s69] H : R))
noncomputable def r66_1 (C : CallF) (k : KT R) : KT R := fun fr H => opn 13 fr (fun s0 s2 s3 s4 s5 s6 s7 s8 s29 s38 s48 s61 s69 => 
(qLenS s0 fun v10 =>
qLss X 3 v10 (.int .i64 2) fun v11 =>
qG v11 false (fun k => k s0 H) H fun v13 H =>
qG v11 false (fun k => qIx v13 (.int .i64 0) fun v => k v H) H fun v14 H =>
qG v11 false (fun k => qNeq X 5 v14 (.int .u8 34) fun v => k v H) H fun v15 H =>
qPick v11 (.bool true) v15 fun v16 =>
qG v16 false (fun k => k s0 H) H fun v18 H =>
qG v16 false (fun k => k s0 H) H fun v19 H =>
qG v16 false (fun k => qLenS v19 fun v => k v H) H fun v20 H =>
qG v16 false (fun k => qSub X 3 v20 (.int .i64 1) fun v => k v H) H fun v21 H =>
qG v16 false (fun k => qIx v18 v21 fun v => k v H) H fun v22 H =>
qG v16 false (fun k => qNeq X 5 v22 (.int .u8 34) fun v => k v H) H fun v23 H =>
qPick v16 (.bool true) v23 fun v24 =>
qG v24 false (fun k => k s0 H) H fun v26 H =>
qG v24 false (fun k => qRes (C 75 [v26] H) k) H fun v27 H =>
qG v24 false (fun k => qNot v27 fun v => k v H) H fun v28 H =>
qPick v24 (.bool true) v28 fun v29 =>
k [s0, s2, s3, s4, s5, s6, s7, s8, v29, s38, s48, s61, s69] H : R))
noncomputable def r66_0 (k : KT R) : KT R := fun fr H => opn 13 fr (fun s0 s2 s3 s4 s5 s6 s7 s8 s29 s38 s48 s61 s69 => 
(k [s0, (.str []), (.bool false), s4, s5, s6, s7, s8, s29, s38, s48, s61, s69] H : R))
noncomputable def c66 (C : CallF) (l0 : List AV) (H : AH) (k : AV → AH → R) : R := opn 1 l0 (fun x0 => (qFn (fun kr => (r66_0 (r66_1 C (qCd (sel 8) (fun _ => (r66_2 kr)) (fun k9 => k9) (r66_3 (r66_4 (r66_5 (qBl (fun k1 => (qLoop (l66_8 C k1 kr))) (r66_15 kr)))))))))
(fun fr H => k (.tup [(sel 1 fr), (sel 2 fr)]) H) [x0, Aes.undef, Aes.undef, Aes.undef, Aes.undef, Aes.undef, Aes.undef, Aes.undef, Aes.undef, Aes.undef, Aes.undef, Aes.undef, Aes.undef] H : R))
/- refectory/refectoryref05.Type -/
noncomputable def r67_5 (k : KT R) : KT R := fun fr H => opn 9 fr (fun s0 s1 s4 s5 s6 s7 s8 s9 s20 => 
(qLdA 2 s8 H fun v23 =>
qNc s7 fun v25 =>
qFa 1 v25 fun v26 =>
qLd v26 H fun v27 =>
qSt 2 s4 v23 H fun _ H =>
qLd v26 H fun w => qSame v27 w (k [s0, s1, s4, v27, (.bool true), s7, s8, s9, s20] H) : R))
noncomputable def r67_4 (k : KT R) : KT R := fun fr H => opn 9 fr (fun s0 s1 s4 s5 s6 s7 s8 s9 s20 => 
(qBld z122 [] fun v21 =>
qSt 2 s4 v21 H fun _ H =>
k [s0, s1, s4, s1, (.bool false), s7, s8, s9, s20] H : R))
noncomputable def r67_3 (k : KT R) : KT R := fun fr H => opn 9 fr (fun s0 s1 s4 s5 s6 s7 s8 s9 s20 => 
(qNot s9 fun v20 =>
k [s0, s1, s4, s5, s6, s7, s8, s9, v20] H : R))
noncomputable def r67_2 (C : CallF) (k : KT R) : KT R := fun fr H => opn 9 fr (fun s0 s1 s4 s5 s6 s7 s8 s9 s20 => 
(qRes (C 77 [s7, (.int .i64 0)] H) fun v16 H =>
qExt v16 0 fun v17 =>
qExt v16 1 fun v18 =>
qNew (.cells z122) .ptr H fun v8 H =>
qSt 2 v8 v17 H fun _ H =>
k [s0, s1, s4, s5, s6, s7, v8, v18, s20] H : R))
noncomputable def r67_1 (k : KT R) : KT R := fun fr H => opn 9 fr (fun s0 s1 s4 s5 s6 s7 s8 s9 s20 => 
(qBld z74 [(0, 1, s0), (1, 1, s1)] fun v12 =>
qBox v12 H fun v13 H =>
k [s0, s1, s4, s5, s6, v13, s8, s9, s20] H : R))
noncomputable def r67_0 (k : KT R) : KT R := fun fr H => opn 9 fr (fun s0 s1 s4 s5 s6 s7 s8 s9 s20 => 
(qNew (.cells z122) .ptr H fun v4 H =>
k [s0, s1, v4, (.int .i64 0), (.bool false), s7, s8, s9, s20] H : R))
noncomputable def c67 (C : CallF) (l0 : List AV) (H : AH) (k : AV → AH → R) : R := opn 2 l0 (fun x0 x1 => (qFn (fun kr => (r67_0 (r67_1 (r67_2 C (r67_3 (qCd (sel 8) (fun _ => (r67_4 kr)) (fun k1 => k1) (r67_5 kr)))))))
(fun fr H => qPtr (sel 2 fr) (qLdA 2 (sel 2 fr) H fun w0 => k (.tup [w0, (sel 3 fr), (sel 4 fr)]) H)) [x0, x1, Aes.undef, Aes.undef, Aes.undef, Aes.undef, Aes.undef, Aes.undef, Aes.undef] H : R))
/- refectory/refectoryref08.number -/
noncomputable def r68_12 (k : KT R) : KT R := fun fr H => opn 9 fr (fun s0 s2 s3 s4 s5 s8 s13 s18 s30 => 
(k [s0, s3, s3, s4, s5, s8, s13, s18, s30] H : R))
noncomputable def r68_11 (k : KT R) : KT R := fun fr H => opn 9 fr (fun s0 s2 s3 s4 s5 s8 s13 s18 s30 => 
(qUn .neg s3 fun v32 =>
k [s0, v32, s3, s4, s5, s8, s13, s18, s30] H : R))
noncomputable def r68_10 (k : KT R) : KT R := fun fr H => opn 9 fr (fun s0 s2 s3 s4 s5 s8 s13 s18 s30 => 
(qEql X 3 s4 (.int .i64 1) fun v30 =>
k [s0, s2, s3, s4, s5, s8, s13, s18, v30] H : R))
noncomputable def r68_5 (k : KT R) : KT R := fun fr H => opn 9 fr (fun s0 s2 s3 s4 s5 s8 s13 s18 s30 => 
(k [s0, s2, (.int .i64 1000000), s4, s5, s8, s13, s18, s30] H : R))
noncomputable def r68_8 (k : KT R) : KT R := fun fr H => opn 9 fr (fun s0 s2 s3 s4 s5 s8 s13 s18 s30 => 
(qAdd X 3 s5 (.int .i64 1) fun v20 =>
k [s0, s2, s3, s4, v20, s8, s13, s18, s30] H : R))
noncomputable def r68_9 (k : KT R) : KT R := fun fr H => opn 9 fr (fun s0 s2 s3 s4 s5 s8 s13 s18 s30 => 
(qMul X 3 (.int .i64 10) s3 fun v22 =>
qIx s0 s5 fun v25 =>
qSub X 5 v25 (.int .u8 48) fun v26 =>
qConvI .i64 v26 fun v27 =>
qAdd X 3 v22 v27 fun v28 =>
k [s0, s2, v28, s4, s5, s8, s13, s18, s30] H : R))
noncomputable def r68_7 (k : KT R) : KT R := fun fr H => opn 9 fr (fun s0 s2 s3 s4 s5 s8 s13 s18 s30 => 
(qLenS s0 fun v17 =>
qLss X 3 s5 v17 fun v18 =>
k [s0, s2, s3, s4, s5, s8, s13, v18, s30] H : R))
noncomputable def l68_6 (k3 : KT R) : KT R → KT R := fun k4 => (r68_7 (qCd (sel 7) (fun k6 => k6) (fun _ => k3) (qBl (fun k5 => (r68_9 k5)) (r68_8 k4))))
noncomputable def r68_6 (k : KT R) : KT R := fun fr H => opn 9 fr (fun s0 s2 s3 s4 s5 s8 s13 s18 s30 => 
(k [s0, s2, s3, s4, s4, s8, s13, s18, s30] H : R))
noncomputable def r68_4 (k : KT R) : KT R := fun fr H => opn 9 fr (fun s0 s2 s3 s4 s5 s8 s13 s18 s30 => 
(qLenS s0 fun v10 =>
qSub X 3 v10 s4 fun v12 =>
qGtr X 3 v12 (.int .i64 6) fun v13 =>
k [s0, s2, s3, s4, s5, s8, v13, s18, s30] H : R))
noncomputable def r68_3 (k : KT R) : KT R := fun fr H => opn 9 fr (fun s0 s2 s3 s4 s5 s8 s13 s18 s30 => 
(k [s0, s2, s3, (.int .i64 1), s5, s8, s13, s18, s30] H : R))
noncomputable def r68_2 (k : KT R) : KT R := fun fr H => opn 9 fr (fun s0 s2 s3 s4 s5 s8 s13 s18 s30 => 
(qIx s0 (.int .i64 0) fun v7 =>
qEql X 5 v7 (.int .u8 45) fun v8 =>
k [s0, s2, s3, s4, s5, v8, s13, s18, s30] H : R))
noncomputable def r68_1 (k : KT R) : KT R := fun fr H => opn 9 fr (fun s0 s2 s3 s4 s5 s8 s13 s18 s30 => 
(k [s0, s2, (.int .i64 0), (.int .i64 0), s5, s8, s13, s18, s30] H : R))
noncomputable def r68_0 (k : KT R) : KT R := fun fr H => opn 9 fr (fun s0 s2 s3 s4 s5 s8 s13 s18 s30 => 
(k [s0, (.int .i64 0), s3, s4, s5, s8, s13, s18, s30] H : R))
noncomputable def c68 (C : CallF) (l0 : List AV) (H : AH) (k : AV → AH → R) : R := opn 1 l0 (fun x0 => (qFn (fun kr => (r68_0 (r68_1 (r68_2 (qCd (sel 5) (fun k7 => (r68_3 k7)) (fun k7 => k7) (r68_4 (qCd (sel 6) (fun k2 => (r68_5 k2)) (fun k2 => (r68_6 (qBl (fun k3 => (qLoop (l68_6 k3))) k2))) (r68_10 (qCd (sel 8) (fun _ => (r68_11 kr)) (fun k1 => k1) (r68_12 kr))))))))))
(fun fr H => k (sel 1 fr) H) [x0, Aes.undef, Aes.undef, Aes.undef, Aes.undef, Aes.undef, Aes.undef, Aes.undef, Aes.undef] H : R))
/- slices.IndexFunc[[]refectory/api.TypeDef,refectory/api.TypeDef] -/
noncomputable def r69_7 (k : KT R) : KT R := fun fr H => opn 8 fr (fun s0 s1 s4 s5 s7 s8 s9 s16 => 
(k [s0, s1, (.int .i64 (-1)), s5, s7, s8, s9, s16] H : R))
noncomputable def r69_6 (k : KT R) : KT R := fun fr H => opn 8 fr (fun s0 s1 s4 s5 s7 s8 s9 s16 => 
(qAdd X 3 s8 (.int .i64 1) fun v18 =>
k [s0, s1, s4, s5, s7, v18, s9, s16] H : R))
noncomputable def r69_5 (k : KT R) : KT R := fun fr H => opn 8 fr (fun s0 s1 s4 s5 s7 s8 s9 s16 => 
(k [s0, s1, s5, s5, s7, s8, s9, s16] H : R))
noncomputable def r69_4 (C : CallF) (k : KT R) : KT R := fun fr H => opn 8 fr (fun s0 s1 s4 s5 s7 s8 s9 s16 => 
(qIa 5 s0 s5 fun v14 =>
qLdA 5 v14 H fun v15 =>
qCallV C s1 [v15] H fun v16 H =>
k [s0, s1, s4, s5, s7, s8, s9, v16] H : R))
noncomputable def r69_3 (k : KT R) : KT R := fun fr H => opn 8 fr (fun s0 s1 s4 s5 s7 s8 s9 s16 => 
(k [s0, s1, s4, s8, s7, s8, s9, s16] H : R))
noncomputable def r69_2 (k : KT R) : KT R := fun fr H => opn 8 fr (fun s0 s1 s4 s5 s7 s8 s9 s16 => 
(qLss X 3 s8 s7 fun v9 =>
k [s0, s1, s4, s5, s7, s8, v9, s16] H : R))
noncomputable def l69_5 (C : CallF) (k1 : KT R) (kr : KT R) : KT R → KT R := fun k2 => (r69_2 (qCd (sel 6) (fun k5 => k5) (fun _ => k1) (qBl (fun k3 => (r69_3 (r69_4 C (qCd (sel 7) (fun _ => (r69_5 kr)) (fun k4 => k4) k3)))) (r69_6 k2))))
noncomputable def r69_1 (k : KT R) : KT R := fun fr H => opn 8 fr (fun s0 s1 s4 s5 s7 s8 s9 s16 => 
(qLenL s0 fun v7 =>
k [s0, s1, s4, s5, v7, (.int .i64 0), s9, s16] H : R))
noncomputable def r69_0 (k : KT R) : KT R := fun fr H => opn 8 fr (fun s0 s1 s4 s5 s7 s8 s9 s16 => 
(k [s0, s1, (.int .i64 0), s5, s7, s8, s9, s16] H : R))
noncomputable def c69 (C : CallF) (l0 : List AV) (H : AH) (k : AV → AH → R) : R := opn 2 l0 (fun x0 x1 => (qFn (fun kr => (r69_0 (r69_1 (qBl (fun k1 => (qLoop (l69_5 C k1 kr))) (r69_7 kr)))))
(fun fr H => k (sel 2 fr) H) [x0, x1, Aes.undef, Aes.undef, Aes.undef, Aes.undef, Aes.undef, Aes.undef] H : R))
/- refectory/schema.Find$1 -/
noncomputable def r70_1 (k : KT R) : KT R := fun fr H => opn 4 fr (fun s0 s1 s2 s3 => 
(qFa 1 s2 fun v4 =>
qLd v4 H fun v5 =>
qLd s1 H fun v6 =>
qEql X 9 v5 v6 fun v7 =>
k [s0, s1, s2, v7] H : R))
noncomputable def r70_0 (k : KT R) : KT R := fun fr H => opn 4 fr (fun s0 s1 s2 s3 => 
(qBox s0 H fun v2 H =>
k [s0, s1, v2, (.bool false)] H : R))
noncomputable def c70 (C : CallF) (l0 : List AV) (H : AH) (k : AV → AH → R) : R := opn 2 l0 (fun x0 x1 => (qFn (fun kr => (r70_0 (r70_1 kr)))
(fun fr H => k (sel 3 fr) H) [x0, x1, Aes.undef, Aes.undef] H : R))
/- refectory/schema.own -/
noncomputable def r71_1 (C : CallF) (k : KT R) : KT R := fun fr H => opn 2 fr (fun s0 s2 => 
(qRows z9 5 [(0, (.str [73,110,116])), (1, (.str [70,108,111,97,116])), (2, (.str [83,116,114,105,110,103])), (3, (.str [66,111,111,108,101,97,110])), (4, (.str [73,68]))] fun v3 =>
qRes (C 38 [v3, s0] H) fun v5 H =>
k [s0, v5] H : R))
noncomputable def r71_0 (k : KT R) : KT R := fun fr H => opn 2 fr (fun s0 s2 => 
(k [s0, (.bool false)] H : R))
noncomputable def c71 (C : CallF) (l0 : List AV) (H : AH) (k : AV → AH → R) : R := opn 1 l0 (fun x0 => (qFn (fun kr => (r71_0 (r71_1 C kr)))
(fun fr H => k (sel 1 fr) H) [x0, Aes.undef] H : R))
/- refectory/refectoryref05.word -/
noncomputable def r72_7 (k : KT R) : KT R := fun fr H => opn 5 fr (fun s0 s2 s3 s4 s9 => 
(qBld z30 [(0, 1, (.int .i64 6)), (1, 1, s0)] fun v13 =>
qSt 4 s2 v13 H fun _ H =>
k [s0, s2, s3, s4, s9] H : R))
noncomputable def r72_4 (k : KT R) : KT R := fun fr H => opn 5 fr (fun s0 s2 s3 s4 s9 => 
(qBld z30 [(0, 1, (.int .i64 2)), (1, 1, s0)] fun v8 =>
qSt 4 s2 v8 H fun _ H =>
k [s0, s2, s3, s4, s9] H : R))
noncomputable def r72_6 (k : KT R) : KT R := fun fr H => opn 5 fr (fun s0 s2 s3 s4 s9 => 
(qBld z30 [(0, 1, (.int .i64 1))] fun v11 =>
qSt 4 s2 v11 H fun _ H =>
k [s0, s2, s3, s4, s9] H : R))
noncomputable def r72_5 (k : KT R) : KT R := fun fr H => opn 5 fr (fun s0 s2 s3 s4 s9 => 
(qEql X 9 s3 (.str [110,117,108,108]) fun v10 =>
k [s0, s2, s3, s4, v10] H : R))
noncomputable def r72_3 (k : KT R) : KT R := fun fr H => opn 5 fr (fun s0 s2 s3 s4 s9 => 
(qEql X 9 s3 (.str [102,97,108,115,101]) fun v6 =>
k [s0, s2, s3, v6, s9] H : R))
noncomputable def r72_2 (k : KT R) : KT R := fun fr H => opn 5 fr (fun s0 s2 s3 s4 s9 => 
(qEql X 9 s3 (.str [116,114,117,101]) fun v5 =>
k [s0, s2, s3, v5, s9] H : R))
noncomputable def r72_1 (k : KT R) : KT R := fun fr H => opn 5 fr (fun s0 s2 s3 s4 s9 => 
(k [s0, s2, s0, s4, s9] H : R))
noncomputable def r72_0 (k : KT R) : KT R := fun fr H => opn 5 fr (fun s0 s2 s3 s4 s9 => 
(qNew (.cells z30) .ptr H fun v2 H =>
k [s0, v2, s3, s4, s9] H : R))
noncomputable def c72 (C : CallF) (l0 : List AV) (H : AH) (k : AV → AH → R) : R := opn 1 l0 (fun x0 => (qFn (fun kr => (r72_0 (r72_1 (qBl (fun k1 => (r72_2 (qCd (sel 3) (fun k4 => k4) (fun k4 => (r72_3 k4)) (qCd (sel 3) (fun _ => (r72_4 kr)) (fun k2 => (r72_5 (qCd (sel 4) (fun _ => (r72_6 kr)) (fun k3 => k3) k2))) k1)))) (r72_7 kr)))))
(fun fr H => qPtr (sel 1 fr) (qLdA 4 (sel 1 fr) H fun w0 => k w0 H)) [x0, Aes.undef, Aes.undef, Aes.undef, Aes.undef] H : R))
/- (*refectory/refectoryref05.P).many -/
noncomputable def r73_9 (k : KT R) : KT R := fun fr H => opn 10 fr (fun s0 s1 s2 s3 s4 s10 s11 s15 s29 s31 => 
(qLdA 4 s11 H fun v50 =>
qSt 4 s10 v50 H fun _ H =>
k [s0, s1, s2, s3, s4, s10, s11, s15, s29, s31] H : R))
noncomputable def r73_8 (C : CallF) (k : KT R) : KT R := fun fr H => opn 10 fr (fun s0 s1 s2 s3 s4 s10 s11 s15 s29 s31 => 
(qFa 3 s11 fun v41 =>
qLd v41 H fun v42 =>
qAdd X 3 s3 (.int .i64 1) fun v45 =>
qRes (C 62 [s0, v45] H) fun v46 H =>
qLd v41 H fun w => qSame v42 w (qRows z30 1 [(0, v46)] fun v47 =>
qApp 4 72 v42 v47 false none H fun v48 H =>
qFa 3 s11 fun v49 =>
qSt 1 v49 v48 H fun _ H =>
k [s0, s1, s2, s3, s4, s10, s11, s15, s29, s31] H) : R))
noncomputable def r73_7 (C : CallF) (k : KT R) : KT R := fun fr H => opn 10 fr (fun s0 s1 s2 s3 s4 s10 s11 s15 s29 s31 => 
(qRes (C 28 [s0, (.str [58])] H) fun v40 H =>
k [s0, s1, s2, s3, s4, s10, s11, s15, s29, s31] H : R))
noncomputable def r73_6 (C : CallF) (k : KT R) : KT R := fun fr H => opn 10 fr (fun s0 s1 s2 s3 s4 s10 s11 s15 s29 s31 => 
(qFa 2 s11 fun v32 =>
qLd v32 H fun v33 =>
qRes (C 30 [s0] H) fun v35 H =>
qLd v32 H fun w => qSame v33 w (qRows z9 1 [(0, v35)] fun v36 =>
qApp 1 16 v33 v36 false none H fun v37 H =>
qFa 2 s11 fun v38 =>
qSt 1 v38 v37 H fun _ H =>
k [s0, s1, s2, s3, s4, s10, s11, s15, s29, s31] H) : R))
noncomputable def r73_5 (k : KT R) : KT R := fun fr H => opn 10 fr (fun s0 s1 s2 s3 s4 s10 s11 s15 s29 s31 => 
(qEql X 3 s1 (.int .i64 8) fun v31 =>
k [s0, s1, s2, s3, s4, s10, s11, s15, s29, v31] H : R))
noncomputable def r73_4 (C : CallF) (k : KT R) : KT R := fun fr H => opn 10 fr (fun s0 s1 s2 s3 s4 s10 s11 s15 s29 s31 => 
(qNc s0 fun v20 =>
qFa 2 v20 fun v21 =>
qLd v21 H fun v22 =>
qEql X 56 v22 (.int .i64 0) fun v23 =>
qG v23 true (fun k => k s0 H) H fun v25 H =>
qG v23 true (fun k => k s2 H) H fun v26 H =>
qG v23 true (fun k => qRes (C 17 [v25, (.int .i64 5), v26] H) k) H fun v27 H =>
qG v23 true (fun k => qNot v27 fun v => k v H) H fun v28 H =>
qPick v23 v28 (.bool false) fun v29 =>
k [s0, s1, s2, s3, s4, s10, s11, s15, v29, s31] H : R))
noncomputable def l73_5 (C : CallF) (k1 : KT R) : KT R → KT R := fun k2 => (r73_4 C (qCd (sel 8) (fun k5 => k5) (fun _ => k1) (qBl (fun k3 => (r73_5 (qCd (sel 9) (fun k4 => (r73_6 C (r73_7 C k4))) (fun k4 => k4) (r73_8 C k3)))) k2)))
noncomputable def r73_3 (C : CallF) (k : KT R) : KT R := fun fr H => opn 10 fr (fun s0 s1 s2 s3 s4 s10 s11 s15 s29 s31 => 
(qRes (C 50 [s0, (.int .i64 4), s4] H) fun v18 H =>
k [s0, s1, s2, s3, s4, s10, s11, s15, s29, s31] H : R))
noncomputable def r73_2 (k : KT R) : KT R := fun fr H => opn 10 fr (fun s0 s1 s2 s3 s4 s10 s11 s15 s29 s31 => 
(qGtr X 3 s3 (.int .i64 12) fun v15 =>
k [s0, s1, s2, s3, s4, s10, s11, v15, s29, s31] H : R))
noncomputable def r73_1 (k : KT R) : KT R := fun fr H => opn 10 fr (fun s0 s1 s2 s3 s4 s10 s11 s15 s29 s31 => 
(qBld z30 [(0, 1, s1)] fun v13 =>
qNew (.cells z30) .ptr H fun v11 H =>
qSt 4 v11 v13 H fun _ H =>
k [s0, s1, s2, s3, s4, s10, v11, s15, s29, s31] H : R))
noncomputable def r73_0 (k : KT R) : KT R := fun fr H => opn 10 fr (fun s0 s1 s2 s3 s4 s10 s11 s15 s29 s31 => 
(qNew (.cells z30) .ptr H fun v10 H =>
k [s0, s1, s2, s3, s4, v10, s11, s15, s29, s31] H : R))
noncomputable def c73 (C : CallF) (l0 : List AV) (H : AH) (k : AV → AH → R) : R := opn 5 l0 (fun x0 x1 x2 x3 x4 => (qFn (fun kr => (r73_0 (r73_1 (r73_2 (qCd (sel 7) (fun k6 => (r73_3 C k6)) (fun k6 => k6) (qBl (fun k1 => (qLoop (l73_5 C k1))) (r73_9 kr)))))))
(fun fr H => qPtr (sel 5 fr) (qLdA 4 (sel 5 fr) H fun w0 => k w0 H)) [x0, x1, x2, x3, x4, Aes.undef, Aes.undef, Aes.undef, Aes.undef, Aes.undef] H : R))
/- refectory/refectoryref01.Block -/
noncomputable def r74_24 (k : KT R) : KT R := fun fr H => opn 16 fr (fun s0 s2 s3 s4 s5 s6 s7 s8 s9 s15 s38 s47 s78 s100 s109 s113 => 
(k [s0, s8, s3, s4, s5, s6, s7, s8, s9, s15, s38, s47, s78, s100, s109, s113] H : R))
noncomputable def r74_20 (k : KT R) : KT R := fun fr H => opn 16 fr (fun s0 s2 s3 s4 s5 s6 s7 s8 s9 s15 s38 s47 s78 s100 s109 s113 => 
(qAdd X 3 s9 (.int .i64 1) fun v111 =>
k [s0, s2, s3, s4, s5, s6, s7, s8, v111, s15, s38, s47, s78, s100, s109, s113] H : R))
noncomputable def r74_23 (k : KT R) : KT R := fun fr H => opn 16 fr (fun s0 s2 s3 s4 s5 s6 s7 s8 s9 s15 s38 s47 s78 s100 s109 s113 => 
(qIa 1 s3 s9 fun v119 =>
qLd v119 H fun v120 =>
qAdd X 9 s8 v120 fun v121 =>
k [s0, s2, s3, s4, s5, s6, s7, v121, s9, s15, s38, s47, s78, s100, s109, s113] H : R))
noncomputable def r74_22 (k : KT R) : KT R := fun fr H => opn 16 fr (fun s0 s2 s3 s4 s5 s6 s7 s8 s9 s15 s38 s47 s78 s100 s109 s113 => 
(qAdd X 9 s8 (.str [10]) fun v115 =>
k [s0, s2, s3, s4, s5, s6, s7, v115, s9, s15, s38, s47, s78, s100, s109, s113] H : R))
noncomputable def r74_21 (k : KT R) : KT R := fun fr H => opn 16 fr (fun s0 s2 s3 s4 s5 s6 s7 s8 s9 s15 s38 s47 s78 s100 s109 s113 => 
(qGtr X 3 s9 (.int .i64 0) fun v113 =>
k [s0, s2, s3, s4, s5, s6, s7, s8, s9, s15, s38, s47, s78, s100, s109, v113] H : R))
noncomputable def r74_19 (k : KT R) : KT R := fun fr H => opn 16 fr (fun s0 s2 s3 s4 s5 s6 s7 s8 s9 s15 s38 s47 s78 s100 s109 s113 => 
(qLenL s3 fun v108 =>
qLss X 3 s9 v108 fun v109 =>
k [s0, s2, s3, s4, s5, s6, s7, s8, s9, s15, s38, s47, s78, s100, v109, s113] H : R))
noncomputable def l74_5 (k1 : KT R) : KT R → KT R := fun k2 => (r74_19 (qCd (sel 14) (fun k5 => k5) (fun _ => k1) (qBl (fun k3 => (r74_21 (qCd (sel 15) (fun k4 => (r74_22 k4)) (fun k4 => k4) (r74_23 k3)))) (r74_20 k2))))
noncomputable def r74_18 (k : KT R) : KT R := fun fr H => opn 16 fr (fun s0 s2 s3 s4 s5 s6 s7 s8 s9 s15 s38 s47 s78 s100 s109 s113 => 
(k [s0, s2, s3, s4, s5, s6, s7, s8, (.int .i64 0), s15, s38, s47, s78, s100, s109, s113] H : R))
noncomputable def r74_17 (k : KT R) : KT R := fun fr H => opn 16 fr (fun s0 s2 s3 s4 s5 s6 s7 s8 s9 s15 s38 s47 s78 s100 s109 s113 => 
(k [s0, s2, s3, s4, s5, s6, s7, (.str []), s9, s15, s38, s47, s78, s100, s109, s113] H : R))
noncomputable def r74_16 (k : KT R) : KT R := fun fr H => opn 16 fr (fun s0 s2 s3 s4 s5 s6 s7 s8 s9 s15 s38 s47 s78 s100 s109 s113 => 
(qLenL s3 fun v103 =>
qSub X 3 v103 (.int .i64 1) fun v104 =>
qSlc Try.t27.desc 1 s3 none (some v104) none fun v105 =>
k [s0, s2, v105, s4, s5, s6, s7, s8, s9, s15, s38, s47, s78, s100, s109, s113] H : R))
noncomputable def r74_15 (C : CallF) (k : KT R) : KT R := fun fr H => opn 16 fr (fun s0 s2 s3 s4 s5 s6 s7 s8 s9 s15 s38 s47 s78 s100 s109 s113 => 
(qLenL s3 fun v82 =>
qGtr X 3 v82 (.int .i64 0) fun v83 =>
qG v83 true (fun k => k s3 H) H fun v85 H =>
qG v83 true (fun k => k s3 H) H fun v86 H =>
qG v83 true (fun k => qLenL v86 fun v => k v H) H fun v87 H =>
qG v83 true (fun k => qSub X 3 v87 (.int .i64 1) fun v => k v H) H fun v88 H =>
qG v83 true (fun k => qIa 1 v85 v88 fun v => k v H) H fun v89 H =>
qG v83 true (fun k => qLd v89 H fun v => k v H) H fun v90 H =>
qG v83 true (fun k => k s3 H) H fun v92 H =>
qG v83 true (fun k => k s3 H) H fun v93 H =>
qG v83 true (fun k => qLenL v93 fun v => k v H) H fun v94 H =>
qG v83 true (fun k => qSub X 3 v94 (.int .i64 1) fun v => k v H) H fun v95 H =>
qG v83 true (fun k => qIa 1 v92 v95 fun v => k v H) H fun v96 H =>
qG v83 true (fun k => qLd v96 H fun v => k v H) H fun v97 H =>
qG v83 true (fun k => qLenS v97 fun v => k v H) H fun v98 H =>
qG v83 true (fun k => qRes (C 79 [v90] H) fun v H => qLd v96 H fun w => qSame v97 w (k v H)) H fun v91 H =>
qG v83 true (fun k => qEql X 3 v91 v98 fun v => k v H) H fun v99 H =>
qPick v83 v99 (.bool false) fun v100 =>
k [s0, s2, s3, s4, s5, s6, s7, s8, s9, s15, s38, s47, s78, v100, s109, s113] H : R))
noncomputable def l74_9 (C : CallF) (k6 : KT R) : KT R → KT R := fun k7 => (r74_15 C (qCd (sel 13) (fun k9 => k9) (fun _ => k6) (qBl (fun k8 => (r74_16 k8)) k7)))
noncomputable def r74_14 (k : KT R) : KT R := fun fr H => opn 16 fr (fun s0 s2 s3 s4 s5 s6 s7 s8 s9 s15 s38 s47 s78 s100 s109 s113 => 
(qSlc Try.t27.desc 1 s3 (some (.int .i64 1)) none none fun v80 =>
k [s0, s2, v80, s4, s5, s6, s7, s8, s9, s15, s38, s47, s78, s100, s109, s113] H : R))
noncomputable def r74_13 (C : CallF) (k : KT R) : KT R := fun fr H => opn 16 fr (fun s0 s2 s3 s4 s5 s6 s7 s8 s9 s15 s38 s47 s78 s100 s109 s113 => 
(qLenL s3 fun v66 =>
qGtr X 3 v66 (.int .i64 0) fun v67 =>
qG v67 true (fun k => k s3 H) H fun v69 H =>
qG v67 true (fun k => qIa 1 v69 (.int .i64 0) fun v => k v H) H fun v70 H =>
qG v67 true (fun k => qLd v70 H fun v => k v H) H fun v71 H =>
qG v67 true (fun k => k s3 H) H fun v73 H =>
qG v67 true (fun k => qIa 1 v73 (.int .i64 0) fun v => k v H) H fun v74 H =>
qG v67 true (fun k => qLd v74 H fun v => k v H) H fun v75 H =>
qG v67 true (fun k => qLenS v75 fun v => k v H) H fun v76 H =>
qG v67 true (fun k => qRes (C 79 [v71] H) fun v H => qLd v74 H fun w => qSame v75 w (k v H)) H fun v72 H =>
qG v67 true (fun k => qEql X 3 v72 v76 fun v => k v H) H fun v77 H =>
qPick v67 v77 (.bool false) fun v78 =>
k [s0, s2, s3, s4, s5, s6, s7, s8, s9, s15, s38, s47, v78, s100, s109, s113] H : R))
noncomputable def l74_13 (C : CallF) (k10 : KT R) : KT R → KT R := fun k11 => (r74_13 C (qCd (sel 12) (fun k13 => k13) (fun _ => k10) (qBl (fun k12 => (r74_14 k12)) k11)))
noncomputable def r74_11 (k : KT R) : KT R := fun fr H => opn 16 fr (fun s0 s2 s3 s4 s5 s6 s7 s8 s9 s15 s38 s47 s78 s100 s109 s113 => 
(qAdd X 3 s7 (.int .i64 1) fun v49 =>
k [s0, s2, s3, s4, s5, s6, v49, s8, s9, s15, s38, s47, s78, s100, s109, s113] H : R))
noncomputable def r74_12 (C : CallF) (k : KT R) : KT R := fun fr H => opn 16 fr (fun s0 s2 s3 s4 s5 s6 s7 s8 s9 s15 s38 s47 s78 s100 s109 s113 => 
(qIa 1 s3 s7 fun v54 =>
qLd v54 H fun v55 =>
qIa 1 s3 s7 fun v59 =>
qLd v59 H fun v60 =>
qRes (C 79 [v60] H) fun v61 H =>
qLd v54 H fun w => qSame v55 w (qO (foldO min2 s4 [v61]) fun v62 =>
qSlc Try.t9.desc 0 v55 (some v62) none none fun v63 =>
qIa 1 s3 s7 fun v64 =>
qSt 1 v64 v63 H fun _ H =>
k [s0, s2, s3, s4, s5, s6, s7, s8, s9, s15, s38, s47, s78, s100, s109, s113] H) : R))
noncomputable def r74_10 (k : KT R) : KT R := fun fr H => opn 16 fr (fun s0 s2 s3 s4 s5 s6 s7 s8 s9 s15 s38 s47 s78 s100 s109 s113 => 
(qLenL s3 fun v42 =>
qLss X 3 s7 v42 fun v43 =>
qG v43 true (fun k => k s4 H) H fun v45 H =>
qG v43 true (fun k => qGtr X 3 v45 (.int .i64 0) fun v => k v H) H fun v46 H =>
qPick v43 v46 (.bool false) fun v47 =>
k [s0, s2, s3, s4, s5, s6, s7, s8, s9, s15, s38, v47, s78, s100, s109, s113] H : R))
noncomputable def l74_17 (C : CallF) (k14 : KT R) : KT R → KT R := fun k15 => (r74_10 (qCd (sel 11) (fun k17 => k17) (fun _ => k14) (qBl (fun k16 => (r74_12 C k16)) (r74_11 k15))))
noncomputable def r74_9 (k : KT R) : KT R := fun fr H => opn 16 fr (fun s0 s2 s3 s4 s5 s6 s7 s8 s9 s15 s38 s47 s78 s100 s109 s113 => 
(k [s0, s2, s3, s4, s5, s6, (.int .i64 1), s8, s9, s15, s38, s47, s78, s100, s109, s113] H : R))
noncomputable def r74_5 (k : KT R) : KT R := fun fr H => opn 16 fr (fun s0 s2 s3 s4 s5 s6 s7 s8 s9 s15 s38 s47 s78 s100 s109 s113 => 
(qAdd X 3 s5 (.int .i64 1) fun v17 =>
k [s0, s2, s3, s4, v17, s6, s7, s8, s9, s15, s38, s47, s78, s100, s109, s113] H : R))
noncomputable def r74_8 (k : KT R) : KT R := fun fr H => opn 16 fr (fun s0 s2 s3 s4 s5 s6 s7 s8 s9 s15 s38 s47 s78 s100 s109 s113 => 
(k [s0, s2, s3, s6, s5, s6, s7, s8, s9, s15, s38, s47, s78, s100, s109, s113] H : R))
noncomputable def r74_7 (k : KT R) : KT R := fun fr H => opn 16 fr (fun s0 s2 s3 s4 s5 s6 s7 s8 s9 s15 s38 s47 s78 s100 s109 s113 => 
(qIa 1 s3 s5 fun v26 =>
qLd v26 H fun v27 =>
qLenS v27 fun v28 =>
qLss X 3 s6 v28 fun v29 =>
qG v29 true (fun k => k s4 H) H fun v31 H =>
qG v29 true (fun k => qLss X 3 v31 (.int .i64 0) fun v => k v H) H fun v32 H =>
qG v29 true (fun k => k v32 H) H fun v33 H =>
qG v33 false (fun k => k s6 H) H fun v34 H =>
qG v33 false (fun k => k s4 H) H fun v35 H =>
qG v33 false (fun k => qLss X 3 v34 v35 fun v => k v H) H fun v36 H =>
qG v29 true (fun k => qPick v33 (.bool true) v36 fun v => k v H) H fun v37 H =>
qPick v29 v37 (.bool false) fun v38 =>
k [s0, s2, s3, s4, s5, s6, s7, s8, s9, s15, v38, s47, s78, s100, s109, s113] H : R))
noncomputable def r74_6 (C : CallF) (k : KT R) : KT R := fun fr H => opn 16 fr (fun s0 s2 s3 s4 s5 s6 s7 s8 s9 s15 s38 s47 s78 s100 s109 s113 => 
(qIa 1 s3 s5 fun v20 =>
qLd v20 H fun v21 =>
qRes (C 79 [v21] H) fun v22 H =>
k [s0, s2, s3, s4, s5, v22, s7, s8, s9, s15, s38, s47, s78, s100, s109, s113] H : R))
noncomputable def r74_4 (k : KT R) : KT R := fun fr H => opn 16 fr (fun s0 s2 s3 s4 s5 s6 s7 s8 s9 s15 s38 s47 s78 s100 s109 s113 => 
(qLenL s3 fun v14 =>
qLss X 3 s5 v14 fun v15 =>
k [s0, s2, s3, s4, s5, s6, s7, s8, s9, v15, s38, s47, s78, s100, s109, s113] H : R))
noncomputable def l74_22 (C : CallF) (k18 : KT R) : KT R → KT R := fun k19 => (r74_4 (qCd (sel 9) (fun k22 => k22) (fun _ => k18) (qBl (fun k20 => (r74_6 C (r74_7 (qCd (sel 10) (fun k21 => (r74_8 k21)) (fun k21 => k21) k20)))) (r74_5 k19))))
noncomputable def r74_3 (k : KT R) : KT R := fun fr H => opn 16 fr (fun s0 s2 s3 s4 s5 s6 s7 s8 s9 s15 s38 s47 s78 s100 s109 s113 => 
(k [s0, s2, s3, s4, (.int .i64 1), s6, s7, s8, s9, s15, s38, s47, s78, s100, s109, s113] H : R))
noncomputable def r74_2 (k : KT R) : KT R := fun fr H => opn 16 fr (fun s0 s2 s3 s4 s5 s6 s7 s8 s9 s15 s38 s47 s78 s100 s109 s113 => 
(k [s0, s2, s3, (.int .i64 (-1)), s5, s6, s7, s8, s9, s15, s38, s47, s78, s100, s109, s113] H : R))
noncomputable def r74_1 (C : CallF) (k : KT R) : KT R := fun fr H => opn 16 fr (fun s0 s2 s3 s4 s5 s6 s7 s8 s9 s15 s38 s47 s78 s100 s109 s113 => 
(qRes (C 78 [s0] H) fun v11 H =>
k [s0, s2, v11, s4, s5, s6, s7, s8, s9, s15, s38, s47, s78, s100, s109, s113] H : R))
noncomputable def r74_0 (k : KT R) : KT R := fun fr H => opn 16 fr (fun s0 s2 s3 s4 s5 s6 s7 s8 s9 s15 s38 s47 s78 s100 s109 s113 => 
(k [s0, (.str []), s3, s4, s5, s6, s7, s8, s9, s15, s38, s47, s78, s100, s109, s113] H : R))
noncomputable def c74 (C : CallF) (l0 : List AV) (H : AH) (k : AV → AH → R) : R := opn 1 l0 (fun x0 => (qFn (fun kr => (r74_0 (r74_1 C (r74_2 (r74_3 (qBl (fun k18 => (qLoop (l74_22 C k18))) (r74_9 (qBl (fun k14 => (qLoop (l74_17 C k14))) (qBl (fun k10 => (qLoop (l74_13 C k10))) (qBl (fun k6 => (qLoop (l74_9 C k6))) (r74_17 (r74_18 (qBl (fun k1 => (qLoop (l74_5 k1))) (r74_24 kr))))))))))))))
(fun fr H => k (sel 1 fr) H) [x0, Aes.undef, Aes.undef, Aes.undef, Aes.undef, Aes.undef, Aes.undef, Aes.undef, Aes.undef, Aes.undef, Aes.undef, Aes.undef, Aes.undef, Aes.undef, Aes.undef, Aes.undef] H : R))
/- refectory/refectoryref01.Valid -/
noncomputable def r75_7 (k : KT R) : KT R := fun fr H => opn 6 fr (fun s0 s2 s3 s5 s9 s17 => 
(k [s0, (.bool true), s3, s5, s9, s17] H : R))
noncomputable def r75_6 (k : KT R) : KT R := fun fr H => opn 6 fr (fun s0 s2 s3 s5 s9 s17 => 
(qAdd X 3 s3 s5 fun v20 =>
k [s0, s2, v20, s5, s9, s17] H : R))
noncomputable def r75_5 (k : KT R) : KT R := fun fr H => opn 6 fr (fun s0 s2 s3 s5 s9 s17 => 
(k [s0, (.bool false), s3, s5, s9, s17] H : R))
noncomputable def r75_4 (k : KT R) : KT R := fun fr H => opn 6 fr (fun s0 s2 s3 s5 s9 s17 => 
(qEql X 3 s5 (.int .i64 0) fun v17 =>
k [s0, s2, s3, s5, s9, v17] H : R))
noncomputable def r75_3 (C : CallF) (k : KT R) : KT R := fun fr H => opn 6 fr (fun s0 s2 s3 s5 s9 s17 => 
(qRes (C 80 [s0, s3] H) fun v13 H =>
qExt v13 0 fun v14 =>
qExt v13 1 fun v15 =>
k [s0, s2, s3, v15, s9, s17] H : R))
noncomputable def r75_2 (k : KT R) : KT R := fun fr H => opn 6 fr (fun s0 s2 s3 s5 s9 s17 => 
(qLenS s0 fun v8 =>
qLss X 3 s3 v8 fun v9 =>
k [s0, s2, s3, s5, v9, s17] H : R))
noncomputable def l75_5 (C : CallF) (k1 : KT R) (kr : KT R) : KT R → KT R := fun k2 => (r75_2 (qCd (sel 4) (fun k5 => k5) (fun _ => k1) (qBl (fun k3 => (r75_3 C (r75_4 (qCd (sel 5) (fun _ => (r75_5 kr)) (fun k4 => k4) (r75_6 k3))))) k2)))
noncomputable def r75_1 (k : KT R) : KT R := fun fr H => opn 6 fr (fun s0 s2 s3 s5 s9 s17 => 
(k [s0, s2, (.int .i64 0), s5, s9, s17] H : R))
noncomputable def r75_0 (k : KT R) : KT R := fun fr H => opn 6 fr (fun s0 s2 s3 s5 s9 s17 => 
(k [s0, (.bool false), s3, s5, s9, s17] H : R))
noncomputable def c75 (C : CallF) (l0 : List AV) (H : AH) (k : AV → AH → R) : R := opn 1 l0 (fun x0 => (qFn (fun kr => (r75_0 (r75_1 (qBl (fun k1 => (qLoop (l75_5 C k1 kr))) (r75_7 kr)))))
(fun fr H => k (sel 1 fr) H) [x0, Aes.undef, Aes.undef, Aes.undef, Aes.undef, Aes.undef] H : R))
/- refectory/refectoryref01.one -/
noncomputable def r76_27 (k : KT R) : KT R := fun fr H => opn 18 fr (fun s0 s1 s4 s5 s6 s7 s11 s14 s15 s24 s26 s28 s30 s32 s34 s66 s76 s94 => 
(k [s0, s1, (.str []), (.int .i64 0), s6, s7, s11, s14, s15, s24, s26, s28, s30, s32, s34, s66, s76, s94] H : R))
noncomputable def r76_7 (k : KT R) : KT R := fun fr H => opn 18 fr (fun s0 s1 s4 s5 s6 s7 s11 s14 s15 s24 s26 s28 s30 s32 s34 s66 s76 s94 => 
(qAdd X 3 s1 (.int .i64 1) fun v22 =>
qSlc Try.t9.desc 0 s0 (some s1) (some v22) none fun v23 =>
k [s0, s1, v23, (.int .i64 1), s6, s7, s11, s14, s15, s24, s26, s28, s30, s32, s34, s66, s76, s94] H : R))
noncomputable def r76_9 (k : KT R) : KT R := fun fr H => opn 18 fr (fun s0 s1 s4 s5 s6 s7 s11 s14 s15 s24 s26 s28 s30 s32 s34 s66 s76 s94 => 
(k [s0, s1, (.str [8]), (.int .i64 1), s6, s7, s11, s14, s15, s24, s26, s28, s30, s32, s34, s66, s76, s94] H : R))
noncomputable def r76_11 (k : KT R) : KT R := fun fr H => opn 18 fr (fun s0 s1 s4 s5 s6 s7 s11 s14 s15 s24 s26 s28 s30 s32 s34 s66 s76 s94 => 
(k [s0, s1, (.str [12]), (.int .i64 1), s6, s7, s11, s14, s15, s24, s26, s28, s30, s32, s34, s66, s76, s94] H : R))
noncomputable def r76_13 (k : KT R) : KT R := fun fr H => opn 18 fr (fun s0 s1 s4 s5 s6 s7 s11 s14 s15 s24 s26 s28 s30 s32 s34 s66 s76 s94 => 
(k [s0, s1, (.str [10]), (.int .i64 1), s6, s7, s11, s14, s15, s24, s26, s28, s30, s32, s34, s66, s76, s94] H : R))
noncomputable def r76_15 (k : KT R) : KT R := fun fr H => opn 18 fr (fun s0 s1 s4 s5 s6 s7 s11 s14 s15 s24 s26 s28 s30 s32 s34 s66 s76 s94 => 
(k [s0, s1, (.str [13]), (.int .i64 1), s6, s7, s11, s14, s15, s24, s26, s28, s30, s32, s34, s66, s76, s94] H : R))
noncomputable def r76_17 (k : KT R) : KT R := fun fr H => opn 18 fr (fun s0 s1 s4 s5 s6 s7 s11 s14 s15 s24 s26 s28 s30 s32 s34 s66 s76 s94 => 
(k [s0, s1, (.str [9]), (.int .i64 1), s6, s7, s11, s14, s15, s24, s26, s28, s30, s32, s34, s66, s76, s94] H : R))
noncomputable def r76_26 (C : CallF) (k : KT R) : KT R := fun fr H => opn 18 fr (fun s0 s1 s4 s5 s6 s7 s11 s14 s15 s24 s26 s28 s30 s32 s34 s66 s76 s94 => 
(qRes (C 82 [s6] H) fun v96 H =>
k [s0, s1, v96, (.int .i64 5), s6, s7, s11, s14, s15, s24, s26, s28, s30, s32, s34, s66, s76, s94] H : R))
noncomputable def r76_25 (k : KT R) : KT R := fun fr H => opn 18 fr (fun s0 s1 s4 s5 s6 s7 s11 s14 s15 s24 s26 s28 s30 s32 s34 s66 s76 s94 => 
(k [s0, s1, (.str []), (.int .i64 0), s6, s7, s11, s14, s15, s24, s26, s28, s30, s32, s34, s66, s76, s94] H : R))
noncomputable def r76_24 (k : KT R) : KT R := fun fr H => opn 18 fr (fun s0 s1 s4 s5 s6 s7 s11 s14 s15 s24 s26 s28 s30 s32 s34 s66 s76 s94 => 
(qLss X 3 s6 (.int .i64 0) fun v86 =>
qG v86 false (fun k => k s6 H) H fun v88 H =>
qG v86 false (fun k => qGeq X 3 v88 (.int .i64 55296) fun v => k v H) H fun v89 H =>
qG v86 false (fun k => k v89 H) H fun v90 H =>
qG v90 true (fun k => k s6 H) H fun v91 H =>
qG v90 true (fun k => qLeq X 3 v91 (.int .i64 57343) fun v => k v H) H fun v92 H =>
qG v86 false (fun k => qPick v90 v92 (.bool false) fun v => k v H) H fun v93 H =>
qPick v86 (.bool true) v93 fun v94 =>
k [s0, s1, s4, s5, s6, s7, s11, s14, s15, s24, s26, s28, s30, s32, s34, s66, s76, v94] H : R))
noncomputable def r76_23 (C : CallF) (k : KT R) : KT R := fun fr H => opn 18 fr (fun s0 s1 s4 s5 s6 s7 s11 s14 s15 s24 s26 s28 s30 s32 s34 s66 s76 s94 => 
(qSub X 3 s6 (.int .i64 55296) fun v78 =>
qO (binop X .shl 3 v78 (.int .u64 10)) fun v79 =>
qAdd X 3 (.int .i64 65536) v79 fun v80 =>
qAdd X 3 v80 s7 fun v82 =>
qSub X 3 v82 (.int .i64 56320) fun v83 =>
qRes (C 82 [v83] H) fun v84 H =>
k [s0, s1, v84, (.int .i64 11), s6, s7, s11, s14, s15, s24, s26, s28, s30, s32, s34, s66, s76, s94] H : R))
noncomputable def r76_22 (k : KT R) : KT R := fun fr H => opn 18 fr (fun s0 s1 s4 s5 s6 s7 s11 s14 s15 s24 s26 s28 s30 s32 s34 s66 s76 s94 => 
(qGeq X 3 s7 (.int .i64 56320) fun v72 =>
qG v72 true (fun k => k s7 H) H fun v74 H =>
qG v72 true (fun k => qLeq X 3 v74 (.int .i64 57343) fun v => k v H) H fun v75 H =>
qPick v72 v75 (.bool false) fun v76 =>
k [s0, s1, s4, s5, s6, s7, s11, s14, s15, s24, s26, s28, s30, s32, s34, s66, v76, s94] H : R))
noncomputable def r76_21 (C : CallF) (k : KT R) : KT R := fun fr H => opn 18 fr (fun s0 s1 s4 s5 s6 s7 s11 s14 s15 s24 s26 s28 s30 s32 s34 s66 s76 s94 => 
(qAdd X 3 s1 (.int .i64 7) fun v69 =>
qRes (C 81 [s0, v69] H) fun v70 H =>
k [s0, s1, s4, s5, s6, v70, s11, s14, s15, s24, s26, s28, s30, s32, s34, s66, s76, s94] H : R))
noncomputable def r76_20 (k : KT R) : KT R := fun fr H => opn 18 fr (fun s0 s1 s4 s5 s6 s7 s11 s14 s15 s24 s26 s28 s30 s32 s34 s66 s76 s94 => 
(qGeq X 3 s6 (.int .i64 55296) fun v41 =>
qG v41 true (fun k => k s6 H) H fun v43 H =>
qG v41 true (fun k => qLeq X 3 v43 (.int .i64 56319) fun v => k v H) H fun v44 H =>
qPick v41 v44 (.bool false) fun v45 =>
qG v45 true (fun k => k s1 H) H fun v47 H =>
qG v45 true (fun k => qAdd X 3 v47 (.int .i64 6) fun v => k v H) H fun v48 H =>
qG v45 true (fun k => k s0 H) H fun v49 H =>
qG v45 true (fun k => qLenS v49 fun v => k v H) H fun v50 H =>
qG v45 true (fun k => qLss X 3 v48 v50 fun v => k v H) H fun v51 H =>
qPick v45 v51 (.bool false) fun v52 =>
qG v52 true (fun k => k s0 H) H fun v54 H =>
qG v52 true (fun k => k s1 H) H fun v55 H =>
qG v52 true (fun k => qAdd X 3 v55 (.int .i64 5) fun v => k v H) H fun v56 H =>
qG v52 true (fun k => qIx v54 v56 fun v => k v H) H fun v57 H =>
qG v52 true (fun k => qEql X 5 v57 (.int .u8 92) fun v => k v H) H fun v58 H =>
qPick v52 v58 (.bool false) fun v59 =>
qG v59 true (fun k => k s0 H) H fun v61 H =>
qG v59 true (fun k => k s1 H) H fun v62 H =>
qG v59 true (fun k => qAdd X 3 v62 (.int .i64 6) fun v => k v H) H fun v63 H =>
qG v59 true (fun k => qIx v61 v63 fun v => k v H) H fun v64 H =>
qG v59 true (fun k => qEql X 5 v64 (.int .u8 117) fun v => k v H) H fun v65 H =>
qPick v59 v65 (.bool false) fun v66 =>
k [s0, s1, s4, s5, s6, s7, s11, s14, s15, s24, s26, s28, s30, s32, s34, v66, s76, s94] H : R))
noncomputable def r76_19 (C : CallF) (k : KT R) : KT R := fun fr H => opn 18 fr (fun s0 s1 s4 s5 s6 s7 s11 s14 s15 s24 s26 s28 s30 s32 s34 s66 s76 s94 => 
(qAdd X 3 s1 (.int .i64 1) fun v38 =>
qRes (C 81 [s0, v38] H) fun v39 H =>
k [s0, s1, s4, s5, v39, s7, s11, s14, s15, s24, s26, s28, s30, s32, s34, s66, s76, s94] H : R))
noncomputable def r76_18 (k : KT R) : KT R := fun fr H => opn 18 fr (fun s0 s1 s4 s5 s6 s7 s11 s14 s15 s24 s26 s28 s30 s32 s34 s66 s76 s94 => 
(qEql X 5 s14 (.int .u8 117) fun v35 =>
k [s0, s1, s4, s5, s6, s7, s11, s14, s15, s24, s26, s28, s30, s32, v35, s66, s76, s94] H : R))
noncomputable def r76_16 (k : KT R) : KT R := fun fr H => opn 18 fr (fun s0 s1 s4 s5 s6 s7 s11 s14 s15 s24 s26 s28 s30 s32 s34 s66 s76 s94 => 
(qEql X 5 s14 (.int .u8 116) fun v33 =>
k [s0, s1, s4, s5, s6, s7, s11, s14, s15, s24, s26, s28, s30, v33, s34, s66, s76, s94] H : R))
noncomputable def r76_14 (k : KT R) : KT R := fun fr H => opn 18 fr (fun s0 s1 s4 s5 s6 s7 s11 s14 s15 s24 s26 s28 s30 s32 s34 s66 s76 s94 => 
(qEql X 5 s14 (.int .u8 114) fun v31 =>
k [s0, s1, s4, s5, s6, s7, s11, s14, s15, s24, s26, s28, v31, s32, s34, s66, s76, s94] H : R))
noncomputable def r76_12 (k : KT R) : KT R := fun fr H => opn 18 fr (fun s0 s1 s4 s5 s6 s7 s11 s14 s15 s24 s26 s28 s30 s32 s34 s66 s76 s94 => 
(qEql X 5 s14 (.int .u8 110) fun v29 =>
k [s0, s1, s4, s5, s6, s7, s11, s14, s15, s24, s26, v29, s30, s32, s34, s66, s76, s94] H : R))
noncomputable def r76_10 (k : KT R) : KT R := fun fr H => opn 18 fr (fun s0 s1 s4 s5 s6 s7 s11 s14 s15 s24 s26 s28 s30 s32 s34 s66 s76 s94 => 
(qEql X 5 s14 (.int .u8 102) fun v27 =>
k [s0, s1, s4, s5, s6, s7, s11, s14, s15, s24, v27, s28, s30, s32, s34, s66, s76, s94] H : R))
noncomputable def r76_8 (k : KT R) : KT R := fun fr H => opn 18 fr (fun s0 s1 s4 s5 s6 s7 s11 s14 s15 s24 s26 s28 s30 s32 s34 s66 s76 s94 => 
(qEql X 5 s14 (.int .u8 98) fun v25 =>
k [s0, s1, s4, s5, s6, s7, s11, s14, s15, v25, s26, s28, s30, s32, s34, s66, s76, s94] H : R))
noncomputable def r76_6 (k : KT R) : KT R := fun fr H => opn 18 fr (fun s0 s1 s4 s5 s6 s7 s11 s14 s15 s24 s26 s28 s30 s32 s34 s66 s76 s94 => 
(qEql X 5 s14 (.int .u8 47) fun v18 =>
k [s0, s1, s4, s5, s6, s7, s11, s14, v18, s24, s26, s28, s30, s32, s34, s66, s76, s94] H : R))
noncomputable def r76_5 (k : KT R) : KT R := fun fr H => opn 18 fr (fun s0 s1 s4 s5 s6 s7 s11 s14 s15 s24 s26 s28 s30 s32 s34 s66 s76 s94 => 
(qEql X 5 s14 (.int .u8 92) fun v17 =>
k [s0, s1, s4, s5, s6, s7, s11, s14, v17, s24, s26, s28, s30, s32, s34, s66, s76, s94] H : R))
noncomputable def r76_4 (k : KT R) : KT R := fun fr H => opn 18 fr (fun s0 s1 s4 s5 s6 s7 s11 s14 s15 s24 s26 s28 s30 s32 s34 s66 s76 s94 => 
(qEql X 5 s14 (.int .u8 34) fun v16 =>
k [s0, s1, s4, s5, s6, s7, s11, s14, v16, s24, s26, s28, s30, s32, s34, s66, s76, s94] H : R))
noncomputable def r76_3 (k : KT R) : KT R := fun fr H => opn 18 fr (fun s0 s1 s4 s5 s6 s7 s11 s14 s15 s24 s26 s28 s30 s32 s34 s66 s76 s94 => 
(qIx s0 s1 fun v14 =>
k [s0, s1, s4, s5, s6, s7, s11, v14, s15, s24, s26, s28, s30, s32, s34, s66, s76, s94] H : R))
noncomputable def r76_2 (k : KT R) : KT R := fun fr H => opn 18 fr (fun s0 s1 s4 s5 s6 s7 s11 s14 s15 s24 s26 s28 s30 s32 s34 s66 s76 s94 => 
(k [s0, s1, (.str []), (.int .i64 0), s6, s7, s11, s14, s15, s24, s26, s28, s30, s32, s34, s66, s76, s94] H : R))
noncomputable def r76_1 (k : KT R) : KT R := fun fr H => opn 18 fr (fun s0 s1 s4 s5 s6 s7 s11 s14 s15 s24 s26 s28 s30 s32 s34 s66 s76 s94 => 
(qLenS s0 fun v10 =>
qGeq X 3 s1 v10 fun v11 =>
k [s0, s1, s4, s5, s6, s7, v11, s14, s15, s24, s26, s28, s30, s32, s34, s66, s76, s94] H : R))
noncomputable def r76_0 (k : KT R) : KT R := fun fr H => opn 18 fr (fun s0 s1 s4 s5 s6 s7 s11 s14 s15 s24 s26 s28 s30 s32 s34 s66 s76 s94 => 
(k [s0, s1, (.str []), (.int .i64 0), s6, s7, s11, s14, s15, s24, s26, s28, s30, s32, s34, s66, s76, s94] H : R))
noncomputable def c76 (C : CallF) (l0 : List AV) (H : AH) (k : AV → AH → R) : R := opn 2 l0 (fun x0 x1 => (qFn (fun kr => (r76_0 (r76_1 (qCd (sel 6) (fun _ => (r76_2 kr)) (fun k14 => k14) (r76_3 (qBl (fun k1 => (r76_4 (qCd (sel 8) (fun k12 => k12) (fun k12 => (r76_5 (qCd (sel 8) (fun k13 => k13) (fun k13 => (r76_6 k13)) k12))) (qCd (sel 8) (fun _ => (r76_7 kr)) (fun k2 => (r76_8 (qCd (sel 9) (fun _ => (r76_9 kr)) (fun k3 => (r76_10 (qCd (sel 10) (fun _ => (r76_11 kr)) (fun k4 => (r76_12 (qCd (sel 11) (fun _ => (r76_13 kr)) (fun k5 => (r76_14 (qCd (sel 12) (fun _ => (r76_15 kr)) (fun k6 => (r76_16 (qCd (sel 13) (fun _ => (r76_17 kr)) (fun k7 => (r76_18 (qCd (sel 14) (fun _ => (r76_19 C (r76_20 (qCd (sel 15) (fun k10 => (r76_21 C (r76_22 (qCd (sel 16) (fun _ => (r76_23 C kr)) (fun k11 => k11) k10)))) (fun k10 => k10) (r76_24 (qCd (sel 17) (fun _ => (r76_25 kr)) (fun k9 => k9) (r76_26 C kr))))))) (fun k8 => k8) k7))) k6))) k5))) k4))) k3))) k2))) k1)))) (r76_27 kr)))))))
(fun fr H => k (.tup [(sel 2 fr), (sel 3 fr)]) H) [x0, x1, Aes.undef, Aes.undef, Aes.undef, Aes.undef, Aes.undef, Aes.undef, Aes.undef, Aes.undef, Aes.undef, Aes.undef, Aes.undef, Aes.undef, Aes.undef, Aes.undef, Aes.undef, Aes.undef] H : R))
/- (*refectory/refectoryref05.P).typ -/
noncomputable def r77_11 (k : KT R) : KT R := fun fr H => opn 9 fr (fun s0 s1 s4 s5 s6 s7 s10 s17 s44 => 
(qLdA 2 s6 H fun v49 =>
qSt 2 s4 v49 H fun _ H =>
k [s0, s1, s4, s7, s6, s7, s10, s17, s44] H : R))
noncomputable def r77_10 (k : KT R) : KT R := fun fr H => opn 9 fr (fun s0 s1 s4 s5 s6 s7 s10 s17 s44 => 
(qFa 1 s6 fun v45 =>
qLd v45 H fun v46 =>
qAdd X 9 v46 (.str [33]) fun v47 =>
qFa 1 s6 fun v48 =>
qSt 1 v48 v47 H fun _ H =>
k [s0, s1, s4, s5, s6, s7, s10, s17, s44] H : R))
noncomputable def r77_9 (C : CallF) (k : KT R) : KT R := fun fr H => opn 9 fr (fun s0 s1 s4 s5 s6 s7 s10 s17 s44 => 
(qG s7 true (fun k => k s0 H) H fun v42 H =>
qG s7 true (fun k => qRes (C 17 [v42, (.int .i64 5), (.str [33])] H) k) H fun v43 H =>
qPick s7 v43 (.bool false) fun v44 =>
k [s0, s1, s4, s5, s6, s7, s10, s17, v44] H : R))
noncomputable def r77_4 (C : CallF) (k : KT R) : KT R := fun fr H => opn 9 fr (fun s0 s1 s4 s5 s6 s7 s10 s17 s44 => 
(qRes (C 30 [s0] H) fun v15 H =>
qFa 0 s6 fun v16 =>
qSt 1 v16 v15 H fun _ H =>
k [s0, s1, s4, s5, s6, s7, s10, s17, s44] H : R))
noncomputable def r77_8 (C : CallF) (k : KT R) : KT R := fun fr H => opn 9 fr (fun s0 s1 s4 s5 s6 s7 s10 s17 s44 => 
(qG s7 true (fun k => k s0 H) H fun v37 H =>
qG s7 true (fun k => qRes (C 17 [v37, (.int .i64 5), (.str [93])] H) k) H fun v38 H =>
qPick s7 v38 (.bool false) fun v39 =>
k [s0, s1, s4, s5, s6, v39, s10, s17, s44] H : R))
noncomputable def r77_7 (k : KT R) : KT R := fun fr H => opn 9 fr (fun s0 s1 s4 s5 s6 s7 s10 s17 s44 => 
(qFa 1 s6 fun v31 =>
qLd v31 H fun v32 =>
qAdd X 9 v32 (.str [93]) fun v33 =>
qFa 1 s6 fun v34 =>
qSt 1 v34 v33 H fun _ H =>
k [s0, s1, s4, s5, s6, s7, s10, s17, s44] H : R))
noncomputable def r77_6 (C : CallF) (k : KT R) : KT R := fun fr H => opn 9 fr (fun s0 s1 s4 s5 s6 s7 s10 s17 s44 => 
(qAdd X 3 s1 (.int .i64 1) fun v27 =>
qRes (C 77 [s0, v27] H) fun v28 H =>
qExt v28 0 fun v29 =>
qExt v28 1 fun v30 =>
qSt 2 s6 v29 H fun _ H =>
k [s0, s1, s4, s5, s6, v30, s10, s17, s44] H : R))
noncomputable def r77_2 (k : KT R) : KT R := fun fr H => opn 9 fr (fun s0 s1 s4 s5 s6 s7 s10 s17 s44 => 
(qBld z122 [] fun v9 =>
qSt 2 s4 v9 H fun _ H =>
k [s0, s1, s4, (.bool false), s6, s7, s10, s17, s44] H : R))
noncomputable def r77_5 (C : CallF) (k : KT R) : KT R := fun fr H => opn 9 fr (fun s0 s1 s4 s5 s6 s7 s10 s17 s44 => 
(qLss X 3 s1 (.int .i64 12) fun v19 =>
qG v19 true (fun k => k s0 H) H fun v21 H =>
qG v19 true (fun k => qRes (C 17 [v21, (.int .i64 5), (.str [91])] H) k) H fun v22 H =>
qPick v19 v22 (.bool false) fun v23 =>
k [s0, s1, s4, s5, s6, s7, s10, v23, s44] H : R))
noncomputable def r77_3 (C : CallF) (k : KT R) : KT R := fun fr H => opn 9 fr (fun s0 s1 s4 s5 s6 s7 s10 s17 s44 => 
(qRes (C 26 [s0] H) fun v12 H =>
qEql X 3 v12 (.int .i64 1) fun v13 =>
k [s0, s1, s4, s5, s6, s7, v13, s17, s44] H : R))
noncomputable def r77_1 (k : KT R) : KT R := fun fr H => opn 9 fr (fun s0 s1 s4 s5 s6 s7 s10 s17 s44 => 
(qBld z122 [] fun v8 =>
qNew (.cells z122) .ptr H fun v6 H =>
qSt 2 v6 v8 H fun _ H =>
k [s0, s1, s4, s5, v6, (.bool true), s10, s17, s44] H : R))
noncomputable def r77_0 (k : KT R) : KT R := fun fr H => opn 9 fr (fun s0 s1 s4 s5 s6 s7 s10 s17 s44 => 
(qNew (.cells z122) .ptr H fun v4 H =>
k [s0, s1, v4, (.bool false), s6, s7, s10, s17, s44] H : R))
noncomputable def c77 (C : CallF) (l0 : List AV) (H : AH) (k : AV → AH → R) : R := opn 2 l0 (fun x0 x1 => (qFn (fun kr => (r77_0 (r77_1 (qBl (fun k2 => (r77_3 C (qCd (sel 6) (fun k3 => (r77_4 C k3)) (fun k3 => (r77_5 C (qCd (sel 7) (fun k4 => (r77_6 C (r77_7 (r77_8 C k4)))) (fun _ => (r77_2 kr)) k3))) k2))) (r77_9 C (qCd (sel 8) (fun k1 => (r77_10 k1)) (fun k1 => k1) (r77_11 kr)))))))
(fun fr H => qPtr (sel 2 fr) (qLdA 2 (sel 2 fr) H fun w0 => k (.tup [w0, (sel 3 fr)]) H)) [x0, x1, Aes.undef, Aes.undef, Aes.undef, Aes.undef, Aes.undef, Aes.undef, Aes.undef] H : R))
/- refectory/refectoryref01.lines -/
noncomputable def r78_11 (k : KT R) : KT R := fun fr H => opn 8 fr (fun s0 s2 s3 s4 s5 s9 s21 s46 => 
(qSlc Try.t9.desc 0 s0 (some s4) none none fun v54 =>
qRows z9 1 [(0, v54)] fun v55 =>
qApp 1 16 s3 v55 false none H fun v56 H =>
k [s0, v56, s3, s4, s5, s9, s21, s46] H : R))
noncomputable def r78_5 (k : KT R) : KT R := fun fr H => opn 8 fr (fun s0 s2 s3 s4 s5 s9 s21 s46 => 
(qAdd X 3 s5 (.int .i64 1) fun v11 =>
k [s0, s2, s3, s4, v11, s9, s21, s46] H : R))
noncomputable def r78_10 (k : KT R) : KT R := fun fr H => opn 8 fr (fun s0 s2 s3 s4 s5 s9 s21 s46 => 
(qAdd X 3 s5 (.int .i64 1) fun v50 =>
k [s0, s2, s3, v50, s5, s9, s21, s46] H : R))
noncomputable def r78_9 (k : KT R) : KT R := fun fr H => opn 8 fr (fun s0 s2 s3 s4 s5 s9 s21 s46 => 
(qAdd X 3 s5 (.int .i64 1) fun v48 =>
k [s0, s2, s3, s4, v48, s9, s21, s46] H : R))
noncomputable def r78_8 (k : KT R) : KT R := fun fr H => opn 8 fr (fun s0 s2 s3 s4 s5 s9 s21 s46 => 
(qIx s0 s5 fun v31 =>
qEql X 5 v31 (.int .u8 13) fun v32 =>
qG v32 true (fun k => k s5 H) H fun v34 H =>
qG v32 true (fun k => qAdd X 3 v34 (.int .i64 1) fun v => k v H) H fun v35 H =>
qG v32 true (fun k => k s0 H) H fun v36 H =>
qG v32 true (fun k => qLenS v36 fun v => k v H) H fun v37 H =>
qG v32 true (fun k => qLss X 3 v35 v37 fun v => k v H) H fun v38 H =>
qPick v32 v38 (.bool false) fun v39 =>
qG v39 true (fun k => k s0 H) H fun v41 H =>
qG v39 true (fun k => k s5 H) H fun v42 H =>
qG v39 true (fun k => qAdd X 3 v42 (.int .i64 1) fun v => k v H) H fun v43 H =>
qG v39 true (fun k => qIx v41 v43 fun v => k v H) H fun v44 H =>
qG v39 true (fun k => qEql X 5 v44 (.int .u8 10) fun v => k v H) H fun v45 H =>
qPick v39 v45 (.bool false) fun v46 =>
k [s0, s2, s3, s4, s5, s9, s21, v46] H : R))
noncomputable def r78_7 (k : KT R) : KT R := fun fr H => opn 8 fr (fun s0 s2 s3 s4 s5 s9 s21 s46 => 
(qSlc Try.t9.desc 0 s0 (some s4) (some s5) none fun v26 =>
qRows z9 1 [(0, v26)] fun v27 =>
qApp 1 16 s3 v27 false none H fun v28 H =>
k [s0, s2, v28, s4, s5, s9, s21, s46] H : R))
noncomputable def r78_6 (k : KT R) : KT R := fun fr H => opn 8 fr (fun s0 s2 s3 s4 s5 s9 s21 s46 => 
(qIx s0 s5 fun v14 =>
qNeq X 5 v14 (.int .u8 10) fun v15 =>
qG v15 true (fun k => k s0 H) H fun v17 H =>
qG v15 true (fun k => k s5 H) H fun v18 H =>
qG v15 true (fun k => qIx v17 v18 fun v => k v H) H fun v19 H =>
qG v15 true (fun k => qNeq X 5 v19 (.int .u8 13) fun v => k v H) H fun v20 H =>
qPick v15 v20 (.bool false) fun v21 =>
k [s0, s2, s3, s4, s5, s9, v21, s46] H : R))
noncomputable def r78_4 (k : KT R) : KT R := fun fr H => opn 8 fr (fun s0 s2 s3 s4 s5 s9 s21 s46 => 
(qLenS s0 fun v8 =>
qLss X 3 s5 v8 fun v9 =>
k [s0, s2, s3, s4, s5, v9, s21, s46] H : R))
noncomputable def l78_6 (k1 : KT R) : KT R → KT R := fun k2 => (r78_4 (qCd (sel 5) (fun k6 => k6) (fun _ => k1) (qBl (fun k3 => (r78_6 (qCd (sel 6) (fun _ => k3) (fun k5 => k5) (r78_7 (r78_8 (qCd (sel 7) (fun k4 => (r78_9 k4)) (fun k4 => k4) (r78_10 k3))))))) (r78_5 k2))))
noncomputable def r78_3 (k : KT R) : KT R := fun fr H => opn 8 fr (fun s0 s2 s3 s4 s5 s9 s21 s46 => 
(k [s0, s2, s3, s4, (.int .i64 0), s9, s21, s46] H : R))
noncomputable def r78_2 (k : KT R) : KT R := fun fr H => opn 8 fr (fun s0 s2 s3 s4 s5 s9 s21 s46 => 
(k [s0, s2, s3, (.int .i64 0), s5, s9, s21, s46] H : R))
noncomputable def r78_1 (k : KT R) : KT R := fun fr H => opn 8 fr (fun s0 s2 s3 s4 s5 s9 s21 s46 => 
(k [s0, s2, (.sl [] .nil), s4, s5, s9, s21, s46] H : R))
noncomputable def r78_0 (k : KT R) : KT R := fun fr H => opn 8 fr (fun s0 s2 s3 s4 s5 s9 s21 s46 => 
(k [s0, (.sl [] .nil), s3, s4, s5, s9, s21, s46] H : R))
noncomputable def c78 (C : CallF) (l0 : List AV) (H : AH) (k : AV → AH → R) : R := opn 1 l0 (fun x0 => (qFn (fun kr => (r78_0 (r78_1 (r78_2 (r78_3 (qBl (fun k1 => (qLoop (l78_6 k1))) (r78_11 kr)))))))
(fun fr H => k (sel 1 fr) H) [x0, Aes.undef, Aes.undef, Aes.undef, Aes.undef, Aes.undef, Aes.undef, Aes.undef] H : R))
/- refectory/refectoryref01.blank -/
noncomputable def r79_4 (k : KT R) : KT R := fun fr H => opn 4 fr (fun s0 s2 s3 s19 => 
(k [s0, s3, s3, s19] H : R))
noncomputable def r79_3 (k : KT R) : KT R := fun fr H => opn 4 fr (fun s0 s2 s3 s19 => 
(qAdd X 3 s3 (.int .i64 1) fun v21 =>
k [s0, s2, v21, s19] H : R))
noncomputable def r79_2 (k : KT R) : KT R := fun fr H => opn 4 fr (fun s0 s2 s3 s19 => 
(qLenS s0 fun v6 =>
qLss X 3 s3 v6 fun v7 =>
qG v7 true (fun k => k s0 H) H fun v9 H =>
qG v7 true (fun k => k s3 H) H fun v10 H =>
qG v7 true (fun k => qIx v9 v10 fun v => k v H) H fun v11 H =>
qG v7 true (fun k => qEql X 5 v11 (.int .u8 32) fun v => k v H) H fun v12 H =>
qG v7 true (fun k => k v12 H) H fun v13 H =>
qG v13 false (fun k => k s0 H) H fun v14 H =>
qG v13 false (fun k => k s3 H) H fun v15 H =>
qG v13 false (fun k => qIx v14 v15 fun v => k v H) H fun v16 H =>
qG v13 false (fun k => qEql X 5 v16 (.int .u8 9) fun v => k v H) H fun v17 H =>
qG v7 true (fun k => qPick v13 (.bool true) v17 fun v => k v H) H fun v18 H =>
qPick v7 v18 (.bool false) fun v19 =>
k [s0, s2, s3, v19] H : R))
noncomputable def l79_4 (k1 : KT R) : KT R → KT R := fun k2 => (r79_2 (qCd (sel 3) (fun k4 => k4) (fun _ => k1) (qBl (fun k3 => (r79_3 k3)) k2)))
noncomputable def r79_1 (k : KT R) : KT R := fun fr H => opn 4 fr (fun s0 s2 s3 s19 => 
(k [s0, s2, (.int .i64 0), s19] H : R))
noncomputable def r79_0 (k : KT R) : KT R := fun fr H => opn 4 fr (fun s0 s2 s3 s19 => 
(k [s0, (.int .i64 0), s3, s19] H : R))
noncomputable def c79 (C : CallF) (l0 : List AV) (H : AH) (k : AV → AH → R) : R := opn 1 l0 (fun x0 => (qFn (fun kr => (r79_0 (r79_1 (qBl (fun k1 => (qLoop (l79_4 k1))) (r79_4 kr)))))
(fun fr H => k (sel 1 fr) H) [x0, Aes.undef, Aes.undef, Aes.undef] H : R))
end
theorem e2 {R : Type} [Mon R] : hFn (R := R) X 2 Try.f2 0 [] = c2 := by kernel_rfl
theorem xf2 : X.fn 2 = some Try.f2 := by kernel_rfl
theorem e3 {R : Type} [Mon R] : hFn (R := R) X 3 Try.f3 2 [0, 1, 4, 5, 6, 7, 8, 9, 10, 11, 12, 26, 39, 86] = c3 := by kernel_rfl
theorem xf3 : X.fn 3 = some Try.f3 := by kernel_rfl
theorem e4 {R : Type} [Mon R] : hFn (R := R) X 4 Try.f4 1 [0, 2, 3, 4, 5, 6, 7, 8, 9, 10, 11, 12, 13, 23, 43, 44, 49, 54, 64, 68, 86, 90, 126] = c4 := by kernel_rfl
theorem xf4 : X.fn 4 = some Try.f4 := by kernel_rfl
theorem e5 {R : Type} [Mon R] : hFn (R := R) X 5 Try.f5 1 [0, 2, 3, 4, 9] = c5 := by kernel_rfl
theorem xf5 : X.fn 5 = some Try.f5 := by kernel_rfl
theorem e6 {R : Type} [Mon R] : hFn (R := R) X 6 Try.f6 2 [0, 1, 4, 5, 10] = c6 := by kernel_rfl
theorem xf6 : X.fn 6 = some Try.f6 := by kernel_rfl
theorem e7 {R : Type} [Mon R] : hFn (R := R) X 7 Try.f7 5 [0, 1, 2, 3, 4, 5, 6, 9, 10, 11] = c7 := by kernel_rfl
theorem xf7 : X.fn 7 = some Try.f7 := by kernel_rfl
theorem e8 {R : Type} [Mon R] : hFn (R := R) X 8 Try.f8 0 [0, 1, 2, 5, 15] = c8 := by kernel_rfl
theorem xf8 : X.fn 8 = some Try.f8 := by kernel_rfl
theorem e9 {R : Type} [Mon R] : hFn (R := R) X 9 Try.f9 1 [0, 2] = c9 := by kernel_rfl
theorem xf9 : X.fn 9 = some Try.f9 := by kernel_rfl
theorem e10 {R : Type} [Mon R] : hFn (R := R) X 10 Try.f10 1 [0, 1, 2, 3, 5, 7, 8, 9, 10] = c10 := by kernel_rfl
theorem xf10 : X.fn 10 = some Try.f10 := by kernel_rfl
theorem e11 {R : Type} [Mon R] : hFn (R := R) X 11 Try.f11 1 [0, 2, 3, 4, 5, 6, 7, 8, 9, 10, 11, 19, 40, 48, 62, 71, 87, 93, 102] = c11 := by kernel_rfl
theorem xf11 : X.fn 11 = some Try.f11 := by kernel_rfl
theorem e12 {R : Type} [Mon R] : hFn (R := R) X 12 Try.f12 2 [0, 1, 5, 6, 7, 8, 9, 10, 11, 14, 18, 25, 37, 42, 78] = c12 := by kernel_rfl
theorem xf12 : X.fn 12 = some Try.f12 := by kernel_rfl
theorem e13 {R : Type} [Mon R] : hFn (R := R) X 13 Try.f13 1 [0, 2, 3, 4, 5, 6, 7, 8, 9, 10, 13, 22, 28, 50, 57, 66] = c13 := by kernel_rfl
theorem xf13 : X.fn 13 = some Try.f13 := by kernel_rfl
theorem e14 {R : Type} [Mon R] : hFn (R := R) X 14 Try.f14 1 [0, 2, 3, 4, 18, 28] = c14 := by kernel_rfl
theorem xf14 : X.fn 14 = some Try.f14 := by kernel_rfl
theorem e15 {R : Type} [Mon R] : hFn (R := R) X 15 Try.f15 1 [0, 2, 3, 4, 5, 6, 7, 8, 9, 12, 16, 19, 28, 35, 43, 60] = c15 := by kernel_rfl
theorem xf15 : X.fn 15 = some Try.f15 := by kernel_rfl
theorem e16 {R : Type} [Mon R] : hFn (R := R) X 16 Try.f16 1 [0, 4] = c16 := by kernel_rfl
theorem xf16 : X.fn 16 = some Try.f16 := by kernel_rfl
theorem e17 {R : Type} [Mon R] : hFn (R := R) X 17 Try.f17 3 [0, 1, 2, 6, 7, 12] = c17 := by kernel_rfl
theorem xf17 : X.fn 17 = some Try.f17 := by kernel_rfl
theorem e18 {R : Type} [Mon R] : hFn (R := R) X 18 Try.f18 2 [0, 1, 8, 19] = c18 := by kernel_rfl
theorem xf18 : X.fn 18 = some Try.f18 := by kernel_rfl
theorem e19 {R : Type} [Mon R] : hFn (R := R) X 19 Try.f19 1 [0, 2, 3, 7, 14, 22, 29, 39, 51, 61] = c19 := by kernel_rfl
theorem xf19 : X.fn 19 = some Try.f19 := by kernel_rfl
theorem e20 {R : Type} [Mon R] : hFn (R := R) X 20 Try.f20 2 [0, 1, 2, 3, 4] = c20 := by kernel_rfl
theorem xf20 : X.fn 20 = some Try.f20 := by kernel_rfl
theorem e22 {R : Type} [Mon R] : hFn (R := R) X 22 Try.f22 2 [0, 1, 4] = c22 := by kernel_rfl
theorem xf22 : X.fn 22 = some Try.f22 := by kernel_rfl
theorem e23 {R : Type} [Mon R] : hFn (R := R) X 23 Try.f23 2 [0, 1, 2, 3, 4, 5, 6, 12] = c23 := by kernel_rfl
theorem xf23 : X.fn 23 = some Try.f23 := by kernel_rfl
theorem e24 {R : Type} [Mon R] : hFn (R := R) X 24 Try.f24 2 [0, 1, 4, 5, 8, 23, 36, 59, 63, 71] = c24 := by kernel_rfl
theorem xf24 : X.fn 24 = some Try.f24 := by kernel_rfl
theorem e25 {R : Type} [Mon R] : hFn (R := R) X 25 Try.f25 2 [0, 1, 4, 5, 6, 7, 8, 9, 10, 11, 12, 13, 14, 19, 37, 51, 67, 78, 95, 110, 129, 135] = c25 := by kernel_rfl
theorem xf25 : X.fn 25 = some Try.f25 := by kernel_rfl
theorem e26 {R : Type} [Mon R] : hFn (R := R) X 26 Try.f26 1 [0, 2, 26] = c26 := by kernel_rfl
theorem xf26 : X.fn 26 = some Try.f26 := by kernel_rfl
theorem e27 {R : Type} [Mon R] : hFn (R := R) X 27 Try.f27 3 [0, 1, 2, 6] = c27 := by kernel_rfl
theorem xf27 : X.fn 27 = some Try.f27 := by kernel_rfl
theorem e28 {R : Type} [Mon R] : hFn (R := R) X 28 Try.f28 2 [0, 1, 7] = c28 := by kernel_rfl
theorem xf28 : X.fn 28 = some Try.f28 := by kernel_rfl
theorem e29 {R : Type} [Mon R] : hFn (R := R) X 29 Try.f29 1 [0] = c29 := by kernel_rfl
theorem xf29 : X.fn 29 = some Try.f29 := by kernel_rfl
theorem e30 {R : Type} [Mon R] : hFn (R := R) X 30 Try.f30 1 [0, 2, 5] = c30 := by kernel_rfl
theorem xf30 : X.fn 30 = some Try.f30 := by kernel_rfl
theorem e31 {R : Type} [Mon R] : hFn (R := R) X 31 Try.f31 2 [0, 1, 4, 5, 11] = c31 := by kernel_rfl
theorem xf31 : X.fn 31 = some Try.f31 := by kernel_rfl
theorem e32 {R : Type} [Mon R] : hFn (R := R) X 32 Try.f32 1 [0, 2, 3, 4, 21, 28] = c32 := by kernel_rfl
theorem xf32 : X.fn 32 = some Try.f32 := by kernel_rfl
theorem e33 {R : Type} [Mon R] : hFn (R := R) X 33 Try.f33 1 [0, 2, 3, 20] = c33 := by kernel_rfl
theorem xf33 : X.fn 33 = some Try.f33 := by kernel_rfl
theorem e34 {R : Type} [Mon R] : hFn (R := R) X 34 Try.f34 3 [0, 1, 2, 6, 7, 26] = c34 := by kernel_rfl
theorem xf34 : X.fn 34 = some Try.f34 := by kernel_rfl
theorem e35 {R : Type} [Mon R] : hFn (R := R) X 35 Try.f35 2 [0, 1, 4] = c35 := by kernel_rfl
theorem xf35 : X.fn 35 = some Try.f35 := by kernel_rfl
theorem e36 {R : Type} [Mon R] : hFn (R := R) X 36 Try.f36 2 [0, 1, 2, 3] = c36 := by kernel_rfl
theorem xf36 : X.fn 36 = some Try.f36 := by kernel_rfl
theorem e37 {R : Type} [Mon R] : hFn (R := R) X 37 Try.f37 3 [0, 1, 2, 4, 6, 7, 8, 13, 22] = c37 := by kernel_rfl
theorem xf37 : X.fn 37 = some Try.f37 := by kernel_rfl
theorem e38 {R : Type} [Mon R] : hFn (R := R) X 38 Try.f38 2 [0, 1, 4] = c38 := by kernel_rfl
theorem xf38 : X.fn 38 = some Try.f38 := by kernel_rfl
theorem e39 {R : Type} [Mon R] : hFn (R := R) X 39 Try.f39 2 [0, 1, 2, 4, 5, 7, 9, 10, 18, 19, 20, 21, 75] = c39 := by kernel_rfl
theorem xf39 : X.fn 39 = some Try.f39 := by kernel_rfl
theorem e40 {R : Type} [Mon R] : hFn (R := R) X 40 Try.f40 2 [0, 1, 4, 5, 7, 8, 9, 16] = c40 := by kernel_rfl
theorem xf40 : X.fn 40 = some Try.f40 := by kernel_rfl
theorem e41 {R : Type} [Mon R] : hFn (R := R) X 41 Try.f41 2 [0, 1, 2, 3] = c41 := by kernel_rfl
theorem xf41 : X.fn 41 = some Try.f41 := by kernel_rfl
theorem e42 {R : Type} [Mon R] : hFn (R := R) X 42 Try.f42 2 [0, 1, 4, 5, 11, 38] = c42 := by kernel_rfl
theorem xf42 : X.fn 42 = some Try.f42 := by kernel_rfl
theorem e43 {R : Type} [Mon R] : hFn (R := R) X 43 Try.f43 1 [0, 2, 3, 4, 7, 22, 34] = c43 := by kernel_rfl
theorem xf43 : X.fn 43 = some Try.f43 := by kernel_rfl
theorem e44 {R : Type} [Mon R] : hFn (R := R) X 44 Try.f44 1 [0, 2, 3, 4, 6] = c44 := by kernel_rfl
theorem xf44 : X.fn 44 = some Try.f44 := by kernel_rfl
theorem e45 {R : Type} [Mon R] : hFn (R := R) X 45 Try.f45 1 [0, 2] = c45 := by kernel_rfl
theorem xf45 : X.fn 45 = some Try.f45 := by kernel_rfl
theorem e46 {R : Type} [Mon R] : hFn (R := R) X 46 Try.f46 1 [0, 2] = c46 := by kernel_rfl
theorem xf46 : X.fn 46 = some Try.f46 := by kernel_rfl
theorem e47 {R : Type} [Mon R] : hFn (R := R) X 47 Try.f47 1 [0, 2] = c47 := by kernel_rfl
theorem xf47 : X.fn 47 = some Try.f47 := by kernel_rfl
theorem e48 {R : Type} [Mon R] : hFn (R := R) X 48 Try.f48 1 [0, 2, 3, 4, 5, 6, 9, 19, 36, 49, 55, 75, 93, 100, 107] = c48 := by kernel_rfl
theorem xf48 : X.fn 48 = some Try.f48 := by kernel_rfl
theorem e49 {R : Type} [Mon R] : hFn (R := R) X 49 Try.f49 2 [0, 1, 4, 5, 6, 7, 8, 9, 22, 53, 57, 65] = c49 := by kernel_rfl
theorem xf49 : X.fn 49 = some Try.f49 := by kernel_rfl
theorem e50 {R : Type} [Mon R] : hFn (R := R) X 50 Try.f50 3 [0, 1, 2, 10] = c50 := by kernel_rfl
theorem xf50 : X.fn 50 = some Try.f50 := by kernel_rfl
theorem e51 {R : Type} [Mon R] : hFn (R := R) X 51 Try.f51 1 [0, 2, 3, 4, 5, 27] = c51 := by kernel_rfl
theorem xf51 : X.fn 51 = some Try.f51 := by kernel_rfl
theorem e52 {R : Type} [Mon R] : hFn (R := R) X 52 Try.f52 1 [0, 2, 3, 6, 9, 16, 23] = c52 := by kernel_rfl
theorem xf52 : X.fn 52 = some Try.f52 := by kernel_rfl
theorem e53 {R : Type} [Mon R] : hFn (R := R) X 53 Try.f53 1 [0, 2, 3, 15] = c53 := by kernel_rfl
theorem xf53 : X.fn 53 = some Try.f53 := by kernel_rfl
theorem e54 {R : Type} [Mon R] : hFn (R := R) X 54 Try.f54 2 [0, 1, 4, 5, 7, 8, 9, 16] = c54 := by kernel_rfl
theorem xf54 : X.fn 54 = some Try.f54 := by kernel_rfl
theorem e55 {R : Type} [Mon R] : hFn (R := R) X 55 Try.f55 2 [0, 1, 4, 5, 7, 8, 9, 16] = c55 := by kernel_rfl
theorem xf55 : X.fn 55 = some Try.f55 := by kernel_rfl
theorem e56 {R : Type} [Mon R] : hFn (R := R) X 56 Try.f56 1 [0, 1, 2] = c56 := by kernel_rfl
theorem xf56 : X.fn 56 = some Try.f56 := by kernel_rfl
theorem e57 {R : Type} [Mon R] : hFn (R := R) X 57 Try.f57 2 [0, 1, 2, 4, 5, 6, 7, 9, 10, 11, 12, 30] = c57 := by kernel_rfl
theorem xf57 : X.fn 57 = some Try.f57 := by kernel_rfl
theorem e58 {R : Type} [Mon R] : hFn (R := R) X 58 Try.f58 2 [0, 1, 4, 5, 7, 8, 9, 16] = c58 := by kernel_rfl
theorem xf58 : X.fn 58 = some Try.f58 := by kernel_rfl
theorem e59 {R : Type} [Mon R] : hFn (R := R) X 59 Try.f59 2 [0, 1, 2, 3, 4, 5, 6, 11, 19] = c59 := by kernel_rfl
theorem xf59 : X.fn 59 = some Try.f59 := by kernel_rfl
theorem e60 {R : Type} [Mon R] : hFn (R := R) X 60 Try.f60 2 [0, 1, 2, 4, 5] = c60 := by kernel_rfl
theorem xf60 : X.fn 60 = some Try.f60 := by kernel_rfl
theorem e61 {R : Type} [Mon R] : hFn (R := R) X 61 Try.f61 2 [0, 1, 4, 5, 6, 7, 10, 15, 29, 43, 52] = c61 := by kernel_rfl
theorem xf61 : X.fn 61 = some Try.f61 := by kernel_rfl
theorem e62 {R : Type} [Mon R] : hFn (R := R) X 62 Try.f62 2 [0, 1, 4, 5, 6, 13, 19, 49, 61, 68] = c62 := by kernel_rfl
theorem xf62 : X.fn 62 = some Try.f62 := by kernel_rfl
theorem e63 {R : Type} [Mon R] : hFn (R := R) X 63 Try.f63 1 [0, 2, 3, 4, 7, 22] = c63 := by kernel_rfl
theorem xf63 : X.fn 63 = some Try.f63 := by kernel_rfl
theorem e64 {R : Type} [Mon R] : hFn (R := R) X 64 Try.f64 2 [0, 1, 4, 5, 19] = c64 := by kernel_rfl
theorem xf64 : X.fn 64 = some Try.f64 := by kernel_rfl
theorem e65 {R : Type} [Mon R] : hFn (R := R) X 65 Try.f65 2 [0, 1, 4, 5, 6, 7, 11, 21, 41, 59] = c65 := by kernel_rfl
theorem xf65 : X.fn 65 = some Try.f65 := by kernel_rfl
theorem e66 {R : Type} [Mon R] : hFn (R := R) X 66 Try.f66 1 [0, 2, 3, 4, 5, 6, 7, 8, 29, 38, 48, 61, 69] = c66 := by kernel_rfl
theorem xf66 : X.fn 66 = some Try.f66 := by kernel_rfl
theorem e67 {R : Type} [Mon R] : hFn (R := R) X 67 Try.f67 2 [0, 1, 4, 5, 6, 7, 8, 9, 20] = c67 := by kernel_rfl
theorem xf67 : X.fn 67 = some Try.f67 := by kernel_rfl
theorem e68 {R : Type} [Mon R] : hFn (R := R) X 68 Try.f68 1 [0, 2, 3, 4, 5, 8, 13, 18, 30] = c68 := by kernel_rfl
theorem xf68 : X.fn 68 = some Try.f68 := by kernel_rfl
theorem e69 {R : Type} [Mon R] : hFn (R := R) X 69 Try.f69 2 [0, 1, 4, 5, 7, 8, 9, 16] = c69 := by kernel_rfl
theorem xf69 : X.fn 69 = some Try.f69 := by kernel_rfl
theorem e70 {R : Type} [Mon R] : hFn (R := R) X 70 Try.f70 2 [0, 1, 2, 3] = c70 := by kernel_rfl
theorem xf70 : X.fn 70 = some Try.f70 := by kernel_rfl
theorem e71 {R : Type} [Mon R] : hFn (R := R) X 71 Try.f71 1 [0, 2] = c71 := by kernel_rfl
theorem xf71 : X.fn 71 = some Try.f71 := by kernel_rfl
theorem e72 {R : Type} [Mon R] : hFn (R := R) X 72 Try.f72 1 [0, 2, 3, 4, 9] = c72 := by kernel_rfl
theorem xf72 : X.fn 72 = some Try.f72 := by kernel_rfl
theorem e73 {R : Type} [Mon R] : hFn (R := R) X 73 Try.f73 5 [0, 1, 2, 3, 4, 10, 11, 15, 29, 31] = c73 := by kernel_rfl
theorem xf73 : X.fn 73 = some Try.f73 := by kernel_rfl
theorem e74 {R : Type} [Mon R] : hFn (R := R) X 74 Try.f74 1 [0, 2, 3, 4, 5, 6, 7, 8, 9, 15, 38, 47, 78, 100, 109, 113] = c74 := by kernel_rfl
theorem xf74 : X.fn 74 = some Try.f74 := by kernel_rfl
theorem e75 {R : Type} [Mon R] : hFn (R := R) X 75 Try.f75 1 [0, 2, 3, 5, 9, 17] = c75 := by kernel_rfl
theorem xf75 : X.fn 75 = some Try.f75 := by kernel_rfl
theorem e76 {R : Type} [Mon R] : hFn (R := R) X 76 Try.f76 2 [0, 1, 4, 5, 6, 7, 11, 14, 15, 24, 26, 28, 30, 32, 34, 66, 76, 94] = c76 := by kernel_rfl
theorem xf76 : X.fn 76 = some Try.f76 := by kernel_rfl
theorem e77 {R : Type} [Mon R] : hFn (R := R) X 77 Try.f77 2 [0, 1, 4, 5, 6, 7, 10, 17, 44] = c77 := by kernel_rfl
theorem xf77 : X.fn 77 = some Try.f77 := by kernel_rfl
theorem e78 {R : Type} [Mon R] : hFn (R := R) X 78 Try.f78 1 [0, 2, 3, 4, 5, 9, 21, 46] = c78 := by kernel_rfl
theorem xf78 : X.fn 78 = some Try.f78 := by kernel_rfl
theorem e79 {R : Type} [Mon R] : hFn (R := R) X 79 Try.f79 1 [0, 2, 3, 19] = c79 := by kernel_rfl
theorem xf79 : X.fn 79 = some Try.f79 := by kernel_rfl
end T
