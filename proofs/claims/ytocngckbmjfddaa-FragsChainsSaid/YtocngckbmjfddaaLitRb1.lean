import Derived.Test.YtocngckbmjfddaaTabRb
import Derived.Test.YtocngckbmjfddaaS8
set_option linter.all false
set_option maxRecDepth 100000
set_option linter.unusedVariables false
open Go Go.Aes Go.Proofs
namespace T
noncomputable def z4 : List AV := [.bool false]
noncomputable def z5 : List AV := [.int .u8 0]
noncomputable def z9 : List AV := [.str []]
noncomputable def z24 : List AV := [.str [], .str [], .sl [] .nil]
noncomputable def z27 : List AV := [.sl [] .nil]
noncomputable def z30 : List AV := [.int .i64 0, .str [], .sl [] .nil, .sl [] .nil]
noncomputable def z31 : List AV := [.int .i64 0, .str [], .sl [] .nil, .sl [] .nil, .int .i64 0, .str [], .sl [] .nil, .sl [] .nil, .int .i64 0, .str [], .sl [] .nil, .sl [] .nil, .int .i64 0, .str [], .sl [] .nil, .sl [] .nil, .int .i64 0, .str [], .sl [] .nil, .sl [] .nil]
noncomputable def z36 : List AV := [.int .i64 0, .str [], .str [], .str [], .sl [] .nil, .sl [] .nil, .sl [] .nil]
noncomputable def z38 : List AV := [.str [], .int .i64 0, .str [], .sl [] .nil, .sl [] .nil]
noncomputable def z40 : List AV := [.str [], .sl [] .nil]
noncomputable def z46 : List AV := [.sl [] .nil, .sl [] .nil]
noncomputable def z56 : List AV := [.str [], .str [], .str [], .str [], .str [], .str [], .str [], .str [], .str [], .str []]
noncomputable def z58 : List AV := [.int .i64 0, .int .i64 0, .int .i64 0, .int .i64 0, .int .i64 0, .int .i64 0, .int .i64 0, .int .i64 0, .int .i64 0, .int .i64 0]
noncomputable def z65 : List AV := [.bool false, .str [], .sl [] .nil, .sl [] .nil, .sl [] .nil]
noncomputable def z67 : List AV := [.str [], .str [], .sl [] .nil, .sl [] .nil]
noncomputable def z70 : List AV := [.str [], .str [], .str [], .str [], .str []]
noncomputable def z71 : List AV := [.int .i64 0, .int .i64 0, .int .i64 0, .int .i64 0, .int .i64 0]
noncomputable def z75 : List AV := [.str [], .str [], .str [], .str [], .str [], .str [], .str [], .str [], .str [], .str [], .str [], .str []]
noncomputable def z76 : List AV := [.bool false, .bool false, .bool false, .bool false, .bool false, .bool false, .bool false, .bool false, .bool false, .bool false, .bool false, .bool false]
noncomputable def z84 : List AV := [.map none]
noncomputable def z86 : List AV := [.str [], .str [], .sl [] .nil, .sl [] .nil, .sl [] .nil, .str [], .int .i64 0, .str [], .sl [] .nil, .sl [] .nil, .sl [] .nil, .map none, .map none]
noncomputable def z87 : List AV := [.nilfn]
noncomputable def z93 : List AV := [.sl [] .nil, .int .i64 0, .int .i64 0, .int .i64 0, .bool false]
noncomputable def z97 : List AV := [.int .i64 0, .str [], .int .i64 0]
noncomputable def z103 : List AV := [.sl [] .nil, .int .i64 0, .str [], .str [], .sl [] .nil, .sl [] .nil, .sl [] .nil, .int .i64 0]
noncomputable def z110 : List AV := [.int .i64 0, .str [], .sl [] .nil, .sl [] .nil, .sl [] .nil]
noncomputable def z115 : List AV := [.str [], .str []]
noncomputable def z117 : List AV := [.str [], .sl [] .nil, .str [], .str [], .int .i64 0]
noncomputable def z121 : List AV := [.str [], .str [], .sl [] .nil, .sl [] .nil, .sl [] .nil, .map none]
noncomputable def z125 : List AV := [.str [], .str [], .sl [] .nil, .sl [] .nil, .sl [] .nil, .map none, .map none]
noncomputable def z133 : List AV := [.nilfn]
noncomputable def z135 : List AV := [.nilfn]
noncomputable def z161 : List AV := [.nilp, .str []]
noncomputable def z182 : List AV := [.str [], .str [], .str [], .int .i64 0, .str [], .sl [] .nil, .sl [] .nil]
noncomputable def z191 : List AV := [.str [], .str []]
noncomputable def z194 : List AV := [.str [], .str [], .str [], .int .i64 0, .str [], .sl [] .nil, .sl [] .nil]
noncomputable def z198 : List AV := [.nilp, .str [], .nilp, .str [], .bool false]
noncomputable def z219 : List AV := [.str [], .str [], .str [], .str []]
section
variable {R : Type} [Mon R]
/- gosem.cut.init -/
noncomputable def r2_0 (C : CallF) (k : KT R) : KT R := fun fr H => opn 0 fr (
(qRes (C 1 [] H) fun v0 H =>
k [] H : R))
noncomputable def c2 (C : CallF) (l0 : List AV) (H : AH) (k : AV → AH → R) : R := opn 0 l0 ((qFn (fun kr => (r2_0 C kr))
(fun fr H => k (.tup []) H) [] H : R))
/- refectory/refectorylaw17.CollectSkips -/
noncomputable def r3_14 (C : CallF) (k : KT R) : KT R := fun fr H => opn 14 fr (fun s0 s1 s4 s5 s6 s7 s8 s9 s10 s11 s12 s26 s39 s86 => 
(qLenL s12 fun v94 =>
qEql X 3 v94 (.int .i64 2) fun v95 =>
qG v95 true (fun k => k s12 H) H fun v97 H =>
qG v95 true (fun k => qIa 2 v97 (.int .i64 0) fun v => k v H) H fun v98 H =>
qG v95 true (fun k => qFa 0 v98 fun v => k v H) H fun v99 H =>
qG v95 true (fun k => qLd v99 H fun v => k v H) H fun v100 H =>
qG v95 true (fun k => qEql X 9 v100 (.str [97]) fun v => k v H) H fun v101 H =>
qPick v95 v101 (.bool false) fun v102 =>
qG v102 true (fun k => k s12 H) H fun v104 H =>
qG v102 true (fun k => qIa 2 v104 (.int .i64 1) fun v => k v H) H fun v105 H =>
qG v102 true (fun k => qFa 0 v105 fun v => k v H) H fun v106 H =>
qG v102 true (fun k => qLd v106 H fun v => k v H) H fun v107 H =>
qG v102 true (fun k => qEql X 9 v107 (.str [101]) fun v => k v H) H fun v108 H =>
qPick v102 v108 (.bool false) fun v109 =>
qG v109 true (fun k => qRes (C 16 [] H) k) H fun v111 H =>
qPick v109 v111 (.bool false) fun v112 =>
k [s0, s1, v112, s5, s6, s7, s8, s9, s10, s11, s12, s26, s39, s86] H : R))
noncomputable def r3_13 (C : CallF) (k : KT R) : KT R := fun fr H => opn 14 fr (fun s0 s1 s4 s5 s6 s7 s8 s9 s10 s11 s12 s26 s39 s86 => 
(qLenL s12 fun v88 =>
qEql X 3 v88 (.int .i64 0) fun v89 =>
qG v89 true (fun k => qRes (C 16 [] H) k) H fun v91 H =>
qPick v89 v91 (.bool false) fun v92 =>
k [s0, s1, v92, s5, s6, s7, s8, s9, s10, s11, s12, s26, s39, s86] H : R))
noncomputable def r3_12 (k : KT R) : KT R := fun fr H => opn 14 fr (fun s0 s1 s4 s5 s6 s7 s8 s9 s10 s11 s12 s26 s39 s86 => 
(qNot s11 fun v86 =>
k [s0, s1, s4, s5, s6, s7, s8, s9, s10, s11, s12, s26, s39, v86] H : R))
noncomputable def r3_11 (C : CallF) (k : KT R) : KT R := fun fr H => opn 14 fr (fun s0 s1 s4 s5 s6 s7 s8 s9 s10 s11 s12 s26 s39 s86 => 
(qLdA 3 s5 H fun v74 =>
qBld z46 [] fun v75 =>
qLdA 7 s9 H fun v76 =>
qFa 5 s9 fun v77 =>
qLd v77 H fun v78 =>
qBld z36 [(0, 1, (.int .i64 1)), (2, 1, (.str [101]))] fun v79 =>
qRows z36 1 [(0, v79)] fun v80 =>
qBld z36 [(0, 1, (.int .i64 3)), (5, 1, v78), (6, 1, v80)] fun v81 =>
qRows z36 2 [(0, v76), (1, v81)] fun v82 =>
qLdA 4 s10 H fun v83 =>
qRes (C 15 [v74, v75, (.str [81,117,101,114,121]), v82, v83] H) fun v84 H =>
k [s0, s1, s4, s5, s6, s7, s8, s9, s10, s11, v84, s26, s39, s86] H : R))
noncomputable def r3_10 (k : KT R) : KT R := fun fr H => opn 14 fr (fun s0 s1 s4 s5 s6 s7 s8 s9 s10 s11 s12 s26 s39 s86 => 
(qEql X 3 s6 (.int .i64 1) fun v59 =>
qG v59 false (fun k => k s6 H) H fun v61 H =>
qG v59 false (fun k => qEql X 3 v61 (.int .i64 3) fun v => k v H) H fun v62 H =>
qPick v59 (.bool true) v62 fun v63 =>
qNot v63 fun v64 =>
qG v64 true (fun k => k s7 H) H fun v66 H =>
qG v64 true (fun k => qEql X 3 v66 (.int .i64 2) fun v => k v H) H fun v67 H =>
qG v64 true (fun k => k v67 H) H fun v68 H =>
qG v68 false (fun k => k s7 H) H fun v69 H =>
qG v68 false (fun k => qEql X 3 v69 (.int .i64 4) fun v => k v H) H fun v70 H =>
qG v64 true (fun k => qPick v68 (.bool true) v70 fun v => k v H) H fun v71 H =>
qG v64 true (fun k => qNot v71 fun v => k v H) H fun v72 H =>
qPick v64 v72 (.bool false) fun v73 =>
k [s0, s1, s4, s5, s6, s7, s8, s9, s10, v73, s12, s26, s39, s86] H : R))
noncomputable def r3_9 (k : KT R) : KT R := fun fr H => opn 14 fr (fun s0 s1 s4 s5 s6 s7 s8 s9 s10 s11 s12 s26 s39 s86 => 
(qRows z9 2 [(0, (.str [121,101,115])), (1, (.str [110,111]))] fun v51 =>
qIaA 5 4 s8 (.int .i64 1) fun v52 =>
qLdA 4 v52 H fun v53 =>
qIaA 5 4 s8 (.int .i64 2) fun v54 =>
qLdA 4 v54 H fun v55 =>
qRows z30 2 [(0, v53), (1, v55)] fun v56 =>
qBld z30 [(0, 1, (.int .i64 8)), (2, 1, v51), (3, 1, v56)] fun v57 =>
qNew (.cells z30) .ptr H fun v10 H =>
qSt 4 v10 v57 H fun _ H =>
k [s0, s1, s4, s5, s6, s7, s8, s9, v10, s11, s12, s26, s39, s86] H : R))
noncomputable def r3_8 (k : KT R) : KT R := fun fr H => opn 14 fr (fun s0 s1 s4 s5 s6 s7 s8 s9 s10 s11 s12 s26 s39 s86 => 
(qFa 5 s9 fun v40 =>
qLd v40 H fun v41 =>
qIaA 5 4 s8 s7 fun v43 =>
qLdA 4 v43 H fun v44 =>
qBld z38 [(0, 1, (.str [105,102])), (1, 4, v44)] fun v45 =>
qRows z38 1 [(0, v45)] fun v46 =>
qBld z40 [(0, 1, (.str [105,110,99,108,117,100,101])), (1, 1, v46)] fun v47 =>
qRows z40 1 [(0, v47)] fun v48 =>
qApp 2 40 v41 v48 false H fun v49 H =>
qFa 5 s9 fun v50 =>
qSt 1 v50 v49 H fun _ H =>
k [s0, s1, s4, s5, s6, s7, s8, s9, s10, s11, s12, s26, s39, s86] H : R))
noncomputable def r3_7 (k : KT R) : KT R := fun fr H => opn 14 fr (fun s0 s1 s4 s5 s6 s7 s8 s9 s10 s11 s12 s26 s39 s86 => 
(qGtr X 3 s7 (.int .i64 0) fun v39 =>
k [s0, s1, s4, s5, s6, s7, s8, s9, s10, s11, s12, s26, v39, s86] H : R))
noncomputable def r3_6 (k : KT R) : KT R := fun fr H => opn 14 fr (fun s0 s1 s4 s5 s6 s7 s8 s9 s10 s11 s12 s26 s39 s86 => 
(qFa 5 s9 fun v27 =>
qLd v27 H fun v28 =>
qIaA 5 4 s8 s6 fun v30 =>
qLdA 4 v30 H fun v31 =>
qBld z38 [(0, 1, (.str [105,102])), (1, 4, v31)] fun v32 =>
qRows z38 1 [(0, v32)] fun v33 =>
qBld z40 [(0, 1, (.str [115,107,105,112])), (1, 1, v33)] fun v34 =>
qRows z40 1 [(0, v34)] fun v35 =>
qApp 2 40 v28 v35 false H fun v36 H =>
qFa 5 s9 fun v37 =>
qSt 1 v37 v36 H fun _ H =>
k [s0, s1, s4, s5, s6, s7, s8, s9, s10, s11, s12, s26, s39, s86] H : R))
noncomputable def r3_5 (k : KT R) : KT R := fun fr H => opn 14 fr (fun s0 s1 s4 s5 s6 s7 s8 s9 s10 s11 s12 s26 s39 s86 => 
(qGtr X 3 s6 (.int .i64 0) fun v26 =>
k [s0, s1, s4, s5, s6, s7, s8, s9, s10, s11, s12, v26, s39, s86] H : R))
noncomputable def r3_4 (k : KT R) : KT R := fun fr H => opn 14 fr (fun s0 s1 s4 s5 s6 s7 s8 s9 s10 s11 s12 s26 s39 s86 => 
(qBld z36 [(0, 1, (.int .i64 1)), (2, 1, (.str [97]))] fun v24 =>
qNew (.cells z36) .ptr H fun v9 H =>
qSt 7 v9 v24 H fun _ H =>
k [s0, s1, s4, s5, s6, s7, s8, v9, s10, s11, s12, s26, s39, s86] H : R))
noncomputable def r3_3 (k : KT R) : KT R := fun fr H => opn 14 fr (fun s0 s1 s4 s5 s6 s7 s8 s9 s10 s11 s12 s26 s39 s86 => 
(qBld z30 [] fun v18 =>
qBld z30 [(0, 1, (.int .i64 2)), (1, 1, (.str [116,114,117,101]))] fun v19 =>
qBld z30 [(0, 1, (.int .i64 2)), (1, 1, (.str [102,97,108,115,101]))] fun v20 =>
qBld z30 [(0, 1, (.int .i64 9)), (1, 1, (.str [121,101,115]))] fun v21 =>
qBld z30 [(0, 1, (.int .i64 9)), (1, 1, (.str [110,111]))] fun v22 =>
qBld z31 [(0, 4, v18), (4, 4, v19), (8, 4, v20), (12, 4, v21), (16, 4, v22)] fun v23 =>
qNew (.cells z31) .ptr H fun v8 H =>
qSt 20 v8 v23 H fun _ H =>
k [s0, s1, s4, s5, s6, s7, v8, s9, s10, s11, s12, s26, s39, s86] H : R))
noncomputable def r3_2 (C : CallF) (k : KT R) : KT R := fun fr H => opn 14 fr (fun s0 s1 s4 s5 s6 s7 s8 s9 s10 s11 s12 s26 s39 s86 => 
(qRes (C 14 [s0, (.int .i64 5)] H) fun v15 H =>
qRes (C 14 [s1, (.int .i64 5)] H) fun v17 H =>
k [s0, s1, s4, s5, v15, v17, s8, s9, s10, s11, s12, s26, s39, s86] H : R))
noncomputable def r3_1 (C : CallF) (k : KT R) : KT R := fun fr H => opn 14 fr (fun s0 s1 s4 s5 s6 s7 s8 s9 s10 s11 s12 s26 s39 s86 => 
(qRes (C 13 [(.int .i64 1)] H) fun v13 H =>
qNew (.cells z24) .ptr H fun v5 H =>
qSt 3 v5 v13 H fun _ H =>
k [s0, s1, s4, v5, s6, s7, s8, s9, s10, s11, s12, s26, s39, s86] H : R))
noncomputable def r3_0 (k : KT R) : KT R := fun fr H => opn 14 fr (fun s0 s1 s4 s5 s6 s7 s8 s9 s10 s11 s12 s26 s39 s86 => 
(k [s0, s1, (.bool false), s5, s6, s7, s8, s9, s10, s11, s12, s26, s39, s86] H : R))
noncomputable def c3 (C : CallF) (l0 : List AV) (H : AH) (k : AV → AH → R) : R := opn 2 l0 (fun x0 x1 => (qFn (fun kr => (r3_0 (r3_1 C (r3_2 C (r3_3 (r3_4 (r3_5 (qCd (sel 11) (fun k3 => (r3_6 k3)) (fun k3 => k3) (r3_7 (qCd (sel 12) (fun k2 => (r3_8 k2)) (fun k2 => k2) (r3_9 (r3_10 (r3_11 C (r3_12 (qCd (sel 13) (fun _ => (r3_13 C kr)) (fun k1 => k1) (r3_14 C kr))))))))))))))))
(fun fr H => k (sel 2 fr) H) [x0, x1, undef, undef, undef, undef, undef, undef, undef, undef, undef, undef, undef, undef] H : R))
/- refectory/refectorylaw17.CollectOrder -/
noncomputable def r4_32 (C : CallF) (k : KT R) : KT R := fun fr H => opn 23 fr (fun s0 s2 s3 s4 s5 s6 s7 s8 s9 s10 s11 s12 s13 s23 s43 s44 s49 s54 s64 s68 s86 s90 s126 => 
(qRes (C 16 [] H) fun v127 H =>
k [s0, v127, s3, s4, s5, s6, s7, s8, s9, s10, s11, s12, s13, s23, s43, s44, s49, s54, s64, s68, s86, s90, s126] H : R))
noncomputable def r4_29 (k : KT R) : KT R := fun fr H => opn 23 fr (fun s0 s2 s3 s4 s5 s6 s7 s8 s9 s10 s11 s12 s13 s23 s43 s44 s49 s54 s64 s68 s86 s90 s126 => 
(qAdd X 3 s13 (.int .i64 1) fun v92 =>
k [s0, s2, s3, s4, s5, s6, s7, s8, s9, s10, s11, s12, v92, s23, s43, s44, s49, s54, s64, s68, s86, s90, s126] H : R))
noncomputable def r4_31 (k : KT R) : KT R := fun fr H => opn 23 fr (fun s0 s2 s3 s4 s5 s6 s7 s8 s9 s10 s11 s12 s13 s23 s43 s44 s49 s54 s64 s68 s86 s90 s126 => 
(k [s0, (.bool false), s3, s4, s5, s6, s7, s8, s9, s10, s11, s12, s13, s23, s43, s44, s49, s54, s64, s68, s86, s90, s126] H : R))
noncomputable def r4_30 (C : CallF) (k : KT R) : KT R := fun fr H => opn 23 fr (fun s0 s2 s3 s4 s5 s6 s7 s8 s9 s10 s11 s12 s13 s23 s43 s44 s49 s54 s64 s68 s86 s90 s126 => 
(qIa 2 s12 s13 fun v95 =>
qFa 0 v95 fun v96 =>
qLd v96 H fun v97 =>
qIa 1 s5 s13 fun v100 =>
qLd v100 H fun v101 =>
qNeq X 9 v97 v101 fun v102 =>
qG v102 false (fun k => k s12 H) H fun v104 H =>
qG v102 false (fun k => k s13 H) H fun v105 H =>
qG v102 false (fun k => qIa 2 v104 v105 fun v => k v H) H fun v106 H =>
qG v102 false (fun k => qFa 1 v106 fun v => k v H) H fun v107 H =>
qG v102 false (fun k => qLd v107 H fun v => k v H) H fun v108 H =>
qG v102 false (fun k => qLenL v108 fun v => k v H) H fun v109 H =>
qG v102 false (fun k => k s6 H) H fun v110 H =>
qG v102 false (fun k => k s5 H) H fun v111 H =>
qG v102 false (fun k => k s13 H) H fun v112 H =>
qG v102 false (fun k => qIa 1 v111 v112 fun v => k v H) H fun v113 H =>
qG v102 false (fun k => qLd v113 H fun v => k v H) H fun v114 H =>
qG v102 false (fun k => qO (lookup X 52 v110 v114 false H) fun v => k v H) H fun v115 H =>
qG v102 false (fun k => qNeq X 3 v109 v115 fun v => k v H) H fun v116 H =>
qPick v102 (.bool true) v116 fun v117 =>
qG v117 false (fun k => k s12 H) H fun v119 H =>
qG v117 false (fun k => k s13 H) H fun v120 H =>
qG v117 false (fun k => qIa 2 v119 v120 fun v => k v H) H fun v121 H =>
qG v117 false (fun k => qLdA 2 v121 H fun v => k v H) H fun v122 H =>
qG v117 false (fun k => qRes (C 18 [v122] H) k) H fun v123 H =>
qG v117 false (fun k => qLenL v123 fun v => k v H) H fun v124 H =>
qG v117 false (fun k => qNeq X 3 v124 (.int .i64 0) fun v => k v H) H fun v125 H =>
qPick v117 (.bool true) v125 fun v126 =>
k [s0, s2, s3, s4, s5, s6, s7, s8, s9, s10, s11, s12, s13, s23, s43, s44, s49, s54, s64, s68, s86, s90, v126] H : R))
noncomputable def r4_28 (k : KT R) : KT R := fun fr H => opn 23 fr (fun s0 s2 s3 s4 s5 s6 s7 s8 s9 s10 s11 s12 s13 s23 s43 s44 s49 s54 s64 s68 s86 s90 s126 => 
(qLenL s12 fun v89 =>
qLss X 3 s13 v89 fun v90 =>
k [s0, s2, s3, s4, s5, s6, s7, s8, s9, s10, s11, s12, s13, s23, s43, s44, s49, s54, s64, s68, s86, v90, s126] H : R))
noncomputable def l4_5 (C : CallF) (k1 : KT R) (kr : KT R) : KT R → KT R := fun k2 => (r4_28 (qCd (sel 21) (fun k5 => k5) (fun _ => k1) (qBl (fun k3 => (r4_30 C (qCd (sel 22) (fun _ => (r4_31 kr)) (fun k4 => k4) k3))) (r4_29 k2))))
noncomputable def r4_27 (k : KT R) : KT R := fun fr H => opn 23 fr (fun s0 s2 s3 s4 s5 s6 s7 s8 s9 s10 s11 s12 s13 s23 s43 s44 s49 s54 s64 s68 s86 s90 s126 => 
(k [s0, s2, s3, s4, s5, s6, s7, s8, s9, s10, s11, s12, (.int .i64 0), s23, s43, s44, s49, s54, s64, s68, s86, s90, s126] H : R))
noncomputable def r4_26 (k : KT R) : KT R := fun fr H => opn 23 fr (fun s0 s2 s3 s4 s5 s6 s7 s8 s9 s10 s11 s12 s13 s23 s43 s44 s49 s54 s64 s68 s86 s90 s126 => 
(k [s0, (.bool false), s3, s4, s5, s6, s7, s8, s9, s10, s11, s12, s13, s23, s43, s44, s49, s54, s64, s68, s86, s90, s126] H : R))
noncomputable def r4_25 (k : KT R) : KT R := fun fr H => opn 23 fr (fun s0 s2 s3 s4 s5 s6 s7 s8 s9 s10 s11 s12 s13 s23 s43 s44 s49 s54 s64 s68 s86 s90 s126 => 
(qLenL s12 fun v83 =>
qLenL s5 fun v85 =>
qNeq X 3 v83 v85 fun v86 =>
k [s0, s2, s3, s4, s5, s6, s7, s8, s9, s10, s11, s12, s13, s23, s43, s44, s49, s54, s64, s68, v86, s90, s126] H : R))
noncomputable def r4_24 (C : CallF) (k : KT R) : KT R := fun fr H => opn 23 fr (fun s0 s2 s3 s4 s5 s6 s7 s8 s9 s10 s11 s12 s13 s23 s43 s44 s49 s54 s64 s68 s86 s90 s126 => 
(qLdA 3 s3 H fun v77 =>
qBld z46 [] fun v78 =>
qBld z30 [(0, 1, (.int .i64 8))] fun v80 =>
qRes (C 15 [v77, v78, (.str [81,117,101,114,121]), s4, v80] H) fun v81 H =>
k [s0, s2, s3, s4, s5, s6, s7, s8, s9, s10, s11, v81, s13, s23, s43, s44, s49, s54, s64, s68, s86, s90, s126] H : R))
noncomputable def r4_7 (k : KT R) : KT R := fun fr H => opn 23 fr (fun s0 s2 s3 s4 s5 s6 s7 s8 s9 s10 s11 s12 s13 s23 s43 s44 s49 s54 s64 s68 s86 s90 s126 => 
(qAdd X 3 s7 (.int .i64 1) fun v25 =>
k [s0, s2, s3, s4, s5, s6, v25, s8, s9, s10, s11, s12, s13, s23, s43, s44, s49, s54, s64, s68, s86, s90, s126] H : R))
noncomputable def r4_23 (k : KT R) : KT R := fun fr H => opn 23 fr (fun s0 s2 s3 s4 s5 s6 s7 s8 s9 s10 s11 s12 s13 s23 s43 s44 s49 s54 s64 s68 s86 s90 s126 => 
(qO (lookup X 52 s6 s9 false H) fun v75 =>
qAdd X 3 v75 (.int .i64 1) fun v76 =>
qMset X 52 s6 s9 v76 H fun _ H =>
k [s0, s2, s3, s4, s5, s6, s7, s8, s9, s10, s11, s12, s13, s23, s43, s44, s49, s54, s64, s68, s86, s90, s126] H : R))
noncomputable def r4_22 (k : KT R) : KT R := fun fr H => opn 23 fr (fun s0 s2 s3 s4 s5 s6 s7 s8 s9 s10 s11 s12 s13 s23 s43 s44 s49 s54 s64 s68 s86 s90 s126 => 
(qRows z9 1 [(0, s9)] fun v71 =>
qApp 1 16 s5 v71 false H fun v72 H =>
k [s0, s2, s3, s4, v72, s6, s7, s8, s9, s10, s11, s12, s13, s23, s43, s44, s49, s54, s64, s68, s86, s90, s126] H : R))
noncomputable def r4_21 (k : KT R) : KT R := fun fr H => opn 23 fr (fun s0 s2 s3 s4 s5 s6 s7 s8 s9 s10 s11 s12 s13 s23 s43 s44 s49 s54 s64 s68 s86 s90 s126 => 
(qO (lookup X 52 s6 s9 false H) fun v67 =>
qEql X 3 v67 (.int .i64 0) fun v68 =>
k [s0, s2, s3, s4, s5, s6, s7, s8, s9, s10, s11, s12, s13, s23, s43, s44, s49, s54, s64, v68, s86, s90, s126] H : R))
noncomputable def r4_20 (k : KT R) : KT R := fun fr H => opn 23 fr (fun s0 s2 s3 s4 s5 s6 s7 s8 s9 s10 s11 s12 s13 s23 s43 s44 s49 s54 s64 s68 s86 s90 s126 => 
(qNot s11 fun v64 =>
k [s0, s2, s3, s4, s5, s6, s7, s8, s9, s10, s11, s12, s13, s23, s43, s44, s49, s54, v64, s68, s86, s90, s126] H : R))
noncomputable def r4_19 (k : KT R) : KT R := fun fr H => opn 23 fr (fun s0 s2 s3 s4 s5 s6 s7 s8 s9 s10 s11 s12 s13 s23 s43 s44 s49 s54 s64 s68 s86 s90 s126 => 
(qLdA 7 s10 H fun v60 =>
qRows z36 1 [(0, v60)] fun v61 =>
qApp 7 128 s4 v61 false H fun v62 H =>
k [s0, s2, s3, v62, s5, s6, s7, s8, s9, s10, s11, s12, s13, s23, s43, s44, s49, s54, s64, s68, s86, s90, s126] H : R))
noncomputable def r4_14 (k : KT R) : KT R := fun fr H => opn 23 fr (fun s0 s2 s3 s4 s5 s6 s7 s8 s9 s10 s11 s12 s13 s23 s43 s44 s49 s54 s64 s68 s86 s90 s126 => 
(qLdA 7 s10 H fun v46 =>
qRows z36 1 [(0, v46)] fun v47 =>
qBld z36 [(0, 1, (.int .i64 3)), (6, 1, v47)] fun v48 =>
qSt 7 s10 v48 H fun _ H =>
k [s0, s2, s3, s4, s5, s6, s7, s8, s9, s10, s11, s12, s13, s23, s43, s44, s49, s54, s64, s68, s86, s90, s126] H : R))
noncomputable def r4_16 (k : KT R) : KT R := fun fr H => opn 23 fr (fun s0 s2 s3 s4 s5 s6 s7 s8 s9 s10 s11 s12 s13 s23 s43 s44 s49 s54 s64 s68 s86 s90 s126 => 
(qLdA 7 s10 H fun v51 =>
qRows z36 1 [(0, v51)] fun v52 =>
qBld z36 [(0, 1, (.int .i64 3)), (3, 1, (.str [81,117,101,114,121])), (6, 1, v52)] fun v53 =>
qSt 7 s10 v53 H fun _ H =>
k [s0, s2, s3, s4, s5, s6, s7, s8, s9, s10, s11, s12, s13, s23, s43, s44, s49, s54, s64, s68, s86, s90, s126] H : R))
noncomputable def r4_18 (k : KT R) : KT R := fun fr H => opn 23 fr (fun s0 s2 s3 s4 s5 s6 s7 s8 s9 s10 s11 s12 s13 s23 s43 s44 s49 s54 s64 s68 s86 s90 s126 => 
(qLdA 7 s10 H fun v56 =>
qRows z36 1 [(0, v56)] fun v57 =>
qBld z36 [(0, 1, (.int .i64 3)), (3, 1, (.str [65])), (6, 1, v57)] fun v58 =>
qSt 7 s10 v58 H fun _ H =>
k [s0, s2, s3, s4, s5, s6, s7, s8, s9, s10, s11, s12, s13, s23, s43, s44, s49, s54, s64, s68, s86, s90, s126] H : R))
noncomputable def r4_17 (k : KT R) : KT R := fun fr H => opn 23 fr (fun s0 s2 s3 s4 s5 s6 s7 s8 s9 s10 s11 s12 s13 s23 s43 s44 s49 s54 s64 s68 s86 s90 s126 => 
(qEql X 3 s43 (.int .i64 3) fun v55 =>
k [s0, s2, s3, s4, s5, s6, s7, s8, s9, s10, s11, s12, s13, s23, s43, s44, s49, v55, s64, s68, s86, s90, s126] H : R))
noncomputable def r4_15 (k : KT R) : KT R := fun fr H => opn 23 fr (fun s0 s2 s3 s4 s5 s6 s7 s8 s9 s10 s11 s12 s13 s23 s43 s44 s49 s54 s64 s68 s86 s90 s126 => 
(qEql X 3 s43 (.int .i64 2) fun v50 =>
k [s0, s2, s3, s4, s5, s6, s7, s8, s9, s10, s11, s12, s13, s23, s43, s44, v50, s54, s64, s68, s86, s90, s126] H : R))
noncomputable def r4_13 (k : KT R) : KT R := fun fr H => opn 23 fr (fun s0 s2 s3 s4 s5 s6 s7 s8 s9 s10 s11 s12 s13 s23 s43 s44 s49 s54 s64 s68 s86 s90 s126 => 
(qEql X 3 s43 (.int .i64 1) fun v45 =>
k [s0, s2, s3, s4, s5, s6, s7, s8, s9, s10, s11, s12, s13, s23, s43, v45, s49, s54, s64, s68, s86, s90, s126] H : R))
noncomputable def r4_12 (k : KT R) : KT R := fun fr H => opn 23 fr (fun s0 s2 s3 s4 s5 s6 s7 s8 s9 s10 s11 s12 s13 s23 s43 s44 s49 s54 s64 s68 s86 s90 s126 => 
(qQuo X 3 s8 (.int .i64 6) fun v42 =>
qRem X 3 v42 (.int .i64 4) fun v43 =>
k [s0, s2, s3, s4, s5, s6, s7, s8, s9, s10, s11, s12, s13, s23, v43, s44, s49, s54, s64, s68, s86, s90, s126] H : R))
noncomputable def r4_11 (k : KT R) : KT R := fun fr H => opn 23 fr (fun s0 s2 s3 s4 s5 s6 s7 s8 s9 s10 s11 s12 s13 s23 s43 s44 s49 s54 s64 s68 s86 s90 s126 => 
(qQuo X 3 s8 (.int .i64 6) fun v38 =>
qRem X 3 v38 (.int .i64 4) fun v39 =>
qEql X 3 v39 (.int .i64 3) fun v40 =>
k [s0, s2, s3, s4, s5, s6, s7, s8, s9, s10, v40, s12, s13, s23, s43, s44, s49, s54, s64, s68, s86, s90, s126] H : R))
noncomputable def r4_10 (k : KT R) : KT R := fun fr H => opn 23 fr (fun s0 s2 s3 s4 s5 s6 s7 s8 s9 s10 s11 s12 s13 s23 s43 s44 s49 s54 s64 s68 s86 s90 s126 => 
(qBld z36 [(0, 1, (.int .i64 1)), (1, 1, s9), (2, 1, (.str [97]))] fun v36 =>
qNew (.cells z36) .ptr H fun v10 H =>
qSt 7 v10 v36 H fun _ H =>
k [s0, s2, s3, s4, s5, s6, s7, s8, s9, v10, s11, s12, s13, s23, s43, s44, s49, s54, s64, s68, s86, s90, s126] H : R))
noncomputable def r4_9 (C : CallF) (k : KT R) : KT R := fun fr H => opn 23 fr (fun s0 s2 s3 s4 s5 s6 s7 s8 s9 s10 s11 s12 s13 s23 s43 s44 s49 s54 s64 s68 s86 s90 s126 => 
(qRem X 3 s8 (.int .i64 6) fun v32 =>
qRes (C 17 [v32] H) fun v33 H =>
qAdd X 9 (.str [110]) v33 fun v34 =>
k [s0, s2, s3, s4, s5, s6, s7, s8, v34, s10, s11, s12, s13, s23, s43, s44, s49, s54, s64, s68, s86, s90, s126] H : R))
noncomputable def r4_8 (C : CallF) (k : KT R) : KT R := fun fr H => opn 23 fr (fun s0 s2 s3 s4 s5 s6 s7 s8 s9 s10 s11 s12 s13 s23 s43 s44 s49 s54 s64 s68 s86 s90 s126 => 
(qIa 1 s0 s7 fun v28 =>
qLd v28 H fun v29 =>
qRes (C 14 [v29, (.int .i64 1048576)] H) fun v30 H =>
k [s0, s2, s3, s4, s5, s6, s7, v30, s9, s10, s11, s12, s13, s23, s43, s44, s49, s54, s64, s68, s86, s90, s126] H : R))
noncomputable def r4_6 (k : KT R) : KT R := fun fr H => opn 23 fr (fun s0 s2 s3 s4 s5 s6 s7 s8 s9 s10 s11 s12 s13 s23 s43 s44 s49 s54 s64 s68 s86 s90 s126 => 
(qLenL s0 fun v18 =>
qLss X 3 s7 v18 fun v19 =>
qG v19 true (fun k => k s7 H) H fun v21 H =>
qG v19 true (fun k => qLss X 3 v21 (.int .i64 40) fun v => k v H) H fun v22 H =>
qPick v19 v22 (.bool false) fun v23 =>
k [s0, s2, s3, s4, s5, s6, s7, s8, s9, s10, s11, s12, s13, v23, s43, s44, s49, s54, s64, s68, s86, s90, s126] H : R))
noncomputable def l4_16 (C : CallF) (k7 : KT R) : KT R → KT R := fun k8 => (r4_6 (qCd (sel 13) (fun k16 => k16) (fun _ => k7) (qBl (fun k9 => (r4_8 C (r4_9 C (r4_10 (r4_11 (r4_12 (qBl (fun k12 => (r4_13 (qCd (sel 15) (fun k13 => (r4_14 k13)) (fun k13 => (r4_15 (qCd (sel 16) (fun k14 => (r4_16 k14)) (fun k14 => (r4_17 (qCd (sel 17) (fun k15 => (r4_18 k15)) (fun k15 => k15) k14))) k13))) k12))) (r4_19 (r4_20 (qCd (sel 18) (fun k10 => (r4_21 (qCd (sel 19) (fun k11 => (r4_22 k11)) (fun k11 => k11) (r4_23 k10)))) (fun k10 => k10) k9)))))))))) (r4_7 k8))))
noncomputable def r4_5 (k : KT R) : KT R := fun fr H => opn 23 fr (fun s0 s2 s3 s4 s5 s6 s7 s8 s9 s10 s11 s12 s13 s23 s43 s44 s49 s54 s64 s68 s86 s90 s126 => 
(k [s0, s2, s3, s4, s5, s6, (.int .i64 0), s8, s9, s10, s11, s12, s13, s23, s43, s44, s49, s54, s64, s68, s86, s90, s126] H : R))
noncomputable def r4_4 (k : KT R) : KT R := fun fr H => opn 23 fr (fun s0 s2 s3 s4 s5 s6 s7 s8 s9 s10 s11 s12 s13 s23 s43 s44 s49 s54 s64 s68 s86 s90 s126 => 
(qNew (.map []) .map H fun v15 H =>
k [s0, s2, s3, s4, s5, v15, s7, s8, s9, s10, s11, s12, s13, s23, s43, s44, s49, s54, s64, s68, s86, s90, s126] H : R))
noncomputable def r4_3 (k : KT R) : KT R := fun fr H => opn 23 fr (fun s0 s2 s3 s4 s5 s6 s7 s8 s9 s10 s11 s12 s13 s23 s43 s44 s49 s54 s64 s68 s86 s90 s126 => 
(k [s0, s2, s3, s4, (.sl [] .nil), s6, s7, s8, s9, s10, s11, s12, s13, s23, s43, s44, s49, s54, s64, s68, s86, s90, s126] H : R))
noncomputable def r4_2 (k : KT R) : KT R := fun fr H => opn 23 fr (fun s0 s2 s3 s4 s5 s6 s7 s8 s9 s10 s11 s12 s13 s23 s43 s44 s49 s54 s64 s68 s86 s90 s126 => 
(k [s0, s2, s3, (.sl [] .nil), s5, s6, s7, s8, s9, s10, s11, s12, s13, s23, s43, s44, s49, s54, s64, s68, s86, s90, s126] H : R))
noncomputable def r4_1 (C : CallF) (k : KT R) : KT R := fun fr H => opn 23 fr (fun s0 s2 s3 s4 s5 s6 s7 s8 s9 s10 s11 s12 s13 s23 s43 s44 s49 s54 s64 s68 s86 s90 s126 => 
(qRes (C 13 [(.int .i64 1)] H) fun v14 H =>
qNew (.cells z24) .ptr H fun v3 H =>
qSt 3 v3 v14 H fun _ H =>
k [s0, s2, v3, s4, s5, s6, s7, s8, s9, s10, s11, s12, s13, s23, s43, s44, s49, s54, s64, s68, s86, s90, s126] H : R))
noncomputable def r4_0 (k : KT R) : KT R := fun fr H => opn 23 fr (fun s0 s2 s3 s4 s5 s6 s7 s8 s9 s10 s11 s12 s13 s23 s43 s44 s49 s54 s64 s68 s86 s90 s126 => 
(k [s0, (.bool false), s3, s4, s5, s6, s7, s8, s9, s10, s11, s12, s13, s23, s43, s44, s49, s54, s64, s68, s86, s90, s126] H : R))
noncomputable def c4 (C : CallF) (l0 : List AV) (H : AH) (k : AV → AH → R) : R := opn 1 l0 (fun x0 => (qFn (fun kr => (r4_0 (r4_1 C (r4_2 (r4_3 (r4_4 (r4_5 (qBl (fun k7 => (qLoop (l4_16 C k7))) (r4_24 C (r4_25 (qCd (sel 20) (fun _ => (r4_26 kr)) (fun k6 => k6) (r4_27 (qBl (fun k1 => (qLoop (l4_5 C k1 kr))) (r4_32 C kr))))))))))))))
(fun fr H => k (sel 1 fr) H) [x0, undef, undef, undef, undef, undef, undef, undef, undef, undef, undef, undef, undef, undef, undef, undef, undef, undef, undef, undef, undef, undef, undef] H : R))
/- refectory/refectorylaw12.FragsWrong -/
noncomputable def r5_5 (C : CallF) (k : KT R) : KT R := fun fr H => opn 7 fr (fun s0 s2 s3 s4 s5 s6 s8 => 
(qEql X 57 s8 (.int .i64 0) fun v24 =>
qG v24 true (fun k => qLdA 2 s6 H fun v => k v H) H fun v27 H =>
qG v24 true (fun k => k s5 H) H fun v29 H =>
qG v24 true (fun k => qRes (C 13 [(.int .i64 1)] H) fun v H => qLdA 2 s6 H fun w => qSame v27 w (k v H)) H fun v26 H =>
qG v24 true (fun k => qRes (C 20 [v26, v27] H) k) H fun v28 H =>
qG v24 true (fun k => qEql X 57 v28 v29 fun v => k v H) H fun v30 H =>
qPick v24 v30 (.bool false) fun v31 =>
qG v31 true (fun k => qRes (C 21 [] H) k) H fun v33 H =>
qPick v31 v33 (.bool false) fun v34 =>
k [s0, v34, s3, s4, s5, s6, s8] H : R))
noncomputable def r5_4 (C : CallF) (k : KT R) : KT R := fun fr H => opn 7 fr (fun s0 s2 s3 s4 s5 s6 s8 => 
(qRes (C 19 [s4] H) fun v19 H =>
qExt v19 0 fun v20 =>
qExt v19 1 fun v21 =>
qExt v19 2 fun v22 =>
qNew (.cells z46) .ptr H fun v6 H =>
qSt 2 v6 v20 H fun _ H =>
k [s0, s2, s3, s4, s5, v6, v22] H : R))
noncomputable def r5_3 (k : KT R) : KT R := fun fr H => opn 7 fr (fun s0 s2 s3 s4 s5 s6 s8 => 
(qBld z58 [(0, 1, (.int .i64 5)), (1, 1, (.int .i64 7)), (2, 1, (.int .i64 7)), (3, 1, (.int .i64 12)), (4, 1, (.int .i64 12)), (5, 1, (.int .i64 12)), (6, 1, (.int .i64 12)), (7, 1, (.int .i64 12)), (8, 1, (.int .i64 0)), (9, 1, (.int .i64 0))] fun v14 =>
qO (indexOf X 58 v14 s3) fun v16 =>
k [s0, s2, s3, s4, v16, s6, s8] H : R))
noncomputable def r5_2 (k : KT R) : KT R := fun fr H => opn 7 fr (fun s0 s2 s3 s4 s5 s6 s8 => 
(qBld z56 [(0, 1, (.str [123,46,46,46,70,32,46,46,46,70,125,32,102,114,97,103,109,101,110,116,32,70,32,111,110,32,81,117,101,114,121,123,97,125,32,102,114,97,103,109,101,110,116,32,70,32,111,110,32,81,117,101,114,121,123,98,125])), (1, 1, (.str [123,46,46,46,70,125,32,102,114,97,103,109,101,110,116,32,70,32,111,110,32,75,105,110,100,123,97,125])), (2, 1, (.str [123,46,46,46,111,110,32,73,110,123,112,125,125])), (3, 1, (.str [123,46,46,46,78,111,110,101,125])), (4, 1, (.str [123,46,46,46,70,125,32,102,114,97,103,109,101,110,116,32,70,32,111,110,32,81,117,101,114,121,123,46,46,46,71,125,32,102,114,97,103,109,101,110,116,32,71,32,111,110,32,81,117,101,114,121,123,46,46,46,70,125])), (5, 1, (.str [123,97,125,32,102,114,97,103,109,101,110,116,32,70,32,111,110,32,81,117,101,114,121,123,97,125])), (6, 1, (.str [123,46,46,46,70,125,32,102,114,97,103,109,101,110,116,32,70,32,111,110,32,65,123,97,125])), (7, 1, (.str [123,99,123,46,46,46,111,110,32,81,117,101,114,121,123,97,125,125,125])), (8, 1, (.str [123,102,123,46,46,46,70,125,125,32,102,114,97,103,109,101,110,116,32,70,32,111,110,32,78,111,100,101,123,105,100,32,46,46,46,111,110,32,84,104,105,110,103,123,95,95,116,121,112,101,110,97,109,101,125,125])), (9, 1, (.str [123,46,46,46,111,110,32,81,117,101,114,121,123,46,46,46,123,46,46,46,70,125,125,125,32,102,114,97,103,109,101,110,116,32,70,32,111,110,32,81,117,101,114,121,123,99,123,46,46,46,111,110,32,66,123,110,97,109,101,125,125,125]))] fun v11 =>
qO (indexOf X 56 v11 s3) fun v13 =>
k [s0, s2, s3, v13, s5, s6, s8] H : R))
noncomputable def r5_1 (C : CallF) (k : KT R) : KT R := fun fr H => opn 7 fr (fun s0 s2 s3 s4 s5 s6 s8 => 
(qRes (C 14 [s0, (.int .i64 10)] H) fun v10 H =>
k [s0, s2, v10, s4, s5, s6, s8] H : R))
noncomputable def r5_0 (k : KT R) : KT R := fun fr H => opn 7 fr (fun s0 s2 s3 s4 s5 s6 s8 => 
(k [s0, (.bool false), s3, s4, s5, s6, s8] H : R))
noncomputable def c5 (C : CallF) (l0 : List AV) (H : AH) (k : AV → AH → R) : R := opn 1 l0 (fun x0 => (qFn (fun kr => (r5_0 (r5_1 C (r5_2 (r5_3 (r5_4 C (r5_5 C kr)))))))
(fun fr H => k (sel 1 fr) H) [x0, undef, undef, undef, undef, undef, undef] H : R))
/- refectory/refectorylaw12.FragsChains -/
noncomputable def r6_21 (C : CallF) (k : KT R) : KT R := fun fr H => opn 17 fr (fun s0 s1 s2 s6 s7 s8 s9 s10 s11 s12 s13 s25 s37 s50 s80 s83 s93 => 
(qLdA 3 s7 H fun v94 =>
qLdA 2 s9 H fun v95 =>
qRes (C 20 [v94, v95] H) fun v96 H =>
qEql X 57 v96 (.int .i64 12) fun v97 =>
qEql X 4 v97 s2 fun v99 =>
qG v99 true (fun k => qLdA 3 s7 H fun v => k v H) H fun v101 H =>
qG v99 true (fun k => qLdA 2 s9 H fun v => k v H) H fun v102 H =>
qG v99 true (fun k => qRes (C 20 [v101, v102] H) k) H fun v103 H =>
qG v99 true (fun k => qEql X 57 v103 (.int .i64 0) fun v => k v H) H fun v104 H =>
qG v99 true (fun k => k s2 H) H fun v105 H =>
qG v99 true (fun k => qNot v105 fun v => k v H) H fun v106 H =>
qG v99 true (fun k => qEql X 4 v104 v106 fun v => k v H) H fun v107 H =>
qPick v99 v107 (.bool false) fun v108 =>
qG v108 true (fun k => qRes (C 21 [] H) k) H fun v110 H =>
qPick v108 v110 (.bool false) fun v111 =>
k [s0, s1, s2, v111, s7, s8, s9, s10, s11, s12, s13, s25, s37, s50, s80, s83, s93] H : R))
noncomputable def r6_18 (k : KT R) : KT R := fun fr H => opn 17 fr (fun s0 s1 s2 s6 s7 s8 s9 s10 s11 s12 s13 s25 s37 s50 s80 s83 s93 => 
(qAdd X 3 s13 (.int .i64 1) fun v85 =>
k [s0, s1, s2, s6, s7, s8, s9, s10, s11, s12, v85, s25, s37, s50, s80, s83, s93] H : R))
noncomputable def r6_20 (k : KT R) : KT R := fun fr H => opn 17 fr (fun s0 s1 s2 s6 s7 s8 s9 s10 s11 s12 s13 s25 s37 s50 s80 s83 s93 => 
(k [s0, s1, s2, (.bool false), s7, s8, s9, s10, s11, s12, s13, s25, s37, s50, s80, s83, s93] H : R))
noncomputable def r6_19 (C : CallF) (k : KT R) : KT R := fun fr H => opn 17 fr (fun s0 s1 s2 s6 s7 s8 s9 s10 s11 s12 s13 s25 s37 s50 s80 s83 s93 => 
(qIa 1 s12 s13 fun v88 =>
qLd v88 H fun v89 =>
qRes (C 17 [s13] H) fun v91 H =>
qLd v88 H fun w => qSame v89 w (qAdd X 9 (.str [70]) v91 fun v92 =>
qNeq X 9 v89 v92 fun v93 =>
k [s0, s1, s2, s6, s7, s8, s9, s10, s11, s12, s13, s25, s37, s50, s80, s83, v93] H) : R))
noncomputable def r6_17 (k : KT R) : KT R := fun fr H => opn 17 fr (fun s0 s1 s2 s6 s7 s8 s9 s10 s11 s12 s13 s25 s37 s50 s80 s83 s93 => 
(qLss X 3 s13 s8 fun v83 =>
k [s0, s1, s2, s6, s7, s8, s9, s10, s11, s12, s13, s25, s37, s50, s80, v83, s93] H : R))
noncomputable def l6_5 (C : CallF) (k1 : KT R) (kr : KT R) : KT R → KT R := fun k2 => (r6_17 (qCd (sel 15) (fun k5 => k5) (fun _ => k1) (qBl (fun k3 => (r6_19 C (qCd (sel 16) (fun _ => (r6_20 kr)) (fun k4 => k4) k3))) (r6_18 k2))))
noncomputable def r6_16 (k : KT R) : KT R := fun fr H => opn 17 fr (fun s0 s1 s2 s6 s7 s8 s9 s10 s11 s12 s13 s25 s37 s50 s80 s83 s93 => 
(k [s0, s1, s2, s6, s7, s8, s9, s10, s11, s12, (.int .i64 0), s25, s37, s50, s80, s83, s93] H : R))
noncomputable def r6_15 (k : KT R) : KT R := fun fr H => opn 17 fr (fun s0 s1 s2 s6 s7 s8 s9 s10 s11 s12 s13 s25 s37 s50 s80 s83 s93 => 
(k [s0, s1, s2, (.bool false), s7, s8, s9, s10, s11, s12, s13, s25, s37, s50, s80, s83, s93] H : R))
noncomputable def r6_14 (k : KT R) : KT R := fun fr H => opn 17 fr (fun s0 s1 s2 s6 s7 s8 s9 s10 s11 s12 s13 s25 s37 s50 s80 s83 s93 => 
(qLenL s12 fun v78 =>
qNeq X 3 v78 s8 fun v80 =>
k [s0, s1, s2, s6, s7, s8, s9, s10, s11, s12, s13, s25, s37, s50, v80, s83, s93] H : R))
noncomputable def r6_13 (C : CallF) (k : KT R) : KT R := fun fr H => opn 17 fr (fun s0 s1 s2 s6 s7 s8 s9 s10 s11 s12 s13 s25 s37 s50 s80 s83 s93 => 
(qLdA 2 s9 H fun v70 =>
qFa 0 s9 fun v71 =>
qLd v71 H fun v72 =>
qIa 5 v72 (.int .i64 0) fun v73 =>
qFa 4 v73 fun v74 =>
qLd v74 H fun v75 =>
qRes (C 22 [v70, v75] H) fun v76 H =>
k [s0, s1, s2, s6, s7, s8, s9, s10, s11, v76, s13, s25, s37, s50, s80, s83, s93] H : R))
noncomputable def r6_6 (k : KT R) : KT R := fun fr H => opn 17 fr (fun s0 s1 s2 s6 s7 s8 s9 s10 s11 s12 s13 s25 s37 s50 s80 s83 s93 => 
(qAdd X 3 s10 (.int .i64 1) fun v27 =>
k [s0, s1, s2, s6, s7, s8, s9, v27, s11, s12, s13, s25, s37, s50, s80, s83, s93] H : R))
noncomputable def r6_12 (k : KT R) : KT R := fun fr H => opn 17 fr (fun s0 s1 s2 s6 s7 s8 s9 s10 s11 s12 s13 s25 s37 s50 s80 s83 s93 => 
(qFa 1 s9 fun v64 =>
qLd v64 H fun v65 =>
qLdA 4 s11 H fun v66 =>
qRows z67 1 [(0, v66)] fun v67 =>
qApp 4 80 v65 v67 false H fun v68 H =>
qFa 1 s9 fun v69 =>
qSt 1 v69 v68 H fun _ H =>
k [s0, s1, s2, s6, s7, s8, s9, s10, s11, s12, s13, s25, s37, s50, s80, s83, s93] H : R))
noncomputable def r6_9 (C : CallF) (k : KT R) : KT R := fun fr H => opn 17 fr (fun s0 s1 s2 s6 s7 s8 s9 s10 s11 s12 s13 s25 s37 s50 s80 s83 s93 => 
(qFa 3 s11 fun v38 =>
qLd v38 H fun v39 =>
qAdd X 3 s10 (.int .i64 1) fun v41 =>
qRes (C 17 [v41] H) fun v42 H =>
qLd v38 H fun w => qSame v39 w (qAdd X 9 (.str [70]) v42 fun v43 =>
qBld z36 [(0, 1, (.int .i64 2)), (2, 1, v43)] fun v44 =>
qRows z36 1 [(0, v44)] fun v45 =>
qBld z36 [(0, 1, (.int .i64 3)), (6, 1, v45)] fun v46 =>
qRows z36 1 [(0, v46)] fun v47 =>
qApp 7 128 v39 v47 false H fun v48 H =>
qFa 3 s11 fun v49 =>
qSt 1 v49 v48 H fun _ H =>
k [s0, s1, s2, s6, s7, s8, s9, s10, s11, s12, s13, s25, s37, s50, s80, s83, s93] H) : R))
noncomputable def r6_11 (C : CallF) (k : KT R) : KT R := fun fr H => opn 17 fr (fun s0 s1 s2 s6 s7 s8 s9 s10 s11 s12 s13 s25 s37 s50 s80 s83 s93 => 
(qFa 3 s11 fun v51 =>
qLd v51 H fun v52 =>
qRes (C 14 [s1, s8] H) fun v55 H =>
qLd v51 H fun w => qSame v52 w (qRes (C 17 [v55] H) fun v56 H =>
qLd v51 H fun w => qSame v52 w (qAdd X 9 (.str [70]) v56 fun v57 =>
qBld z36 [(0, 1, (.int .i64 2)), (2, 1, v57)] fun v58 =>
qRows z36 1 [(0, v58)] fun v59 =>
qBld z36 [(0, 1, (.int .i64 1)), (2, 1, (.str [115,101,108,102])), (6, 1, v59)] fun v60 =>
qRows z36 1 [(0, v60)] fun v61 =>
qApp 7 128 v52 v61 false H fun v62 H =>
qFa 3 s11 fun v63 =>
qSt 1 v63 v62 H fun _ H =>
k [s0, s1, s2, s6, s7, s8, s9, s10, s11, s12, s13, s25, s37, s50, s80, s83, s93] H)) : R))
noncomputable def r6_10 (k : KT R) : KT R := fun fr H => opn 17 fr (fun s0 s1 s2 s6 s7 s8 s9 s10 s11 s12 s13 s25 s37 s50 s80 s83 s93 => 
(k [s0, s1, s2, s6, s7, s8, s9, s10, s11, s12, s13, s25, s37, s2, s80, s83, s93] H : R))
noncomputable def r6_8 (k : KT R) : KT R := fun fr H => opn 17 fr (fun s0 s1 s2 s6 s7 s8 s9 s10 s11 s12 s13 s25 s37 s50 s80 s83 s93 => 
(qAdd X 3 s10 (.int .i64 1) fun v35 =>
qLss X 3 v35 s8 fun v37 =>
k [s0, s1, s2, s6, s7, s8, s9, s10, s11, s12, s13, s25, v37, s50, s80, s83, s93] H : R))
noncomputable def r6_7 (C : CallF) (k : KT R) : KT R := fun fr H => opn 17 fr (fun s0 s1 s2 s6 s7 s8 s9 s10 s11 s12 s13 s25 s37 s50 s80 s83 s93 => 
(qRes (C 17 [s10] H) fun v29 H =>
qAdd X 9 (.str [70]) v29 fun v30 =>
qBld z36 [(0, 1, (.int .i64 1)), (2, 1, (.str [97]))] fun v31 =>
qRows z36 1 [(0, v31)] fun v32 =>
qBld z67 [(0, 1, v30), (1, 1, (.str [81,117,101,114,121])), (3, 1, v32)] fun v33 =>
qNew (.cells z67) .ptr H fun v11 H =>
qSt 4 v11 v33 H fun _ H =>
k [s0, s1, s2, s6, s7, s8, s9, s10, v11, s12, s13, s25, s37, s50, s80, s83, s93] H : R))
noncomputable def r6_5 (k : KT R) : KT R := fun fr H => opn 17 fr (fun s0 s1 s2 s6 s7 s8 s9 s10 s11 s12 s13 s25 s37 s50 s80 s83 s93 => 
(qLss X 3 s10 s8 fun v25 =>
k [s0, s1, s2, s6, s7, s8, s9, s10, s11, s12, s13, v25, s37, s50, s80, s83, s93] H : R))
noncomputable def l6_12 (C : CallF) (k7 : KT R) : KT R → KT R := fun k8 => (r6_5 (qCd (sel 11) (fun k12 => k12) (fun _ => k7) (qBl (fun k9 => (r6_7 C (r6_8 (qCd (sel 12) (fun k10 => (r6_9 C k10)) (fun k10 => (r6_10 (qCd (sel 13) (fun k11 => (r6_11 C k11)) (fun k11 => k11) k10))) (r6_12 k9))))) (r6_6 k8))))
noncomputable def r6_4 (k : KT R) : KT R := fun fr H => opn 17 fr (fun s0 s1 s2 s6 s7 s8 s9 s10 s11 s12 s13 s25 s37 s50 s80 s83 s93 => 
(k [s0, s1, s2, s6, s7, s8, s9, (.int .i64 0), s11, s12, s13, s25, s37, s50, s80, s83, s93] H : R))
noncomputable def r6_3 (k : KT R) : KT R := fun fr H => opn 17 fr (fun s0 s1 s2 s6 s7 s8 s9 s10 s11 s12 s13 s25 s37 s50 s80 s83 s93 => 
(qBld z36 [(0, 1, (.int .i64 2)), (2, 1, (.str [70,48]))] fun v18 =>
qRows z36 1 [(0, v18)] fun v19 =>
qBld z65 [(4, 1, v19)] fun v20 =>
qRows z65 1 [(0, v20)] fun v21 =>
qBld z46 [(0, 1, v21)] fun v22 =>
qNew (.cells z46) .ptr H fun v9 H =>
qSt 2 v9 v22 H fun _ H =>
k [s0, s1, s2, s6, s7, s8, v9, s10, s11, s12, s13, s25, s37, s50, s80, s83, s93] H : R))
noncomputable def r6_2 (C : CallF) (k : KT R) : KT R := fun fr H => opn 17 fr (fun s0 s1 s2 s6 s7 s8 s9 s10 s11 s12 s13 s25 s37 s50 s80 s83 s93 => 
(qRes (C 14 [s0, (.int .i64 12)] H) fun v16 H =>
qAdd X 3 (.int .i64 1) v16 fun v17 =>
k [s0, s1, s2, s6, s7, v17, s9, s10, s11, s12, s13, s25, s37, s50, s80, s83, s93] H : R))
noncomputable def r6_1 (C : CallF) (k : KT R) : KT R := fun fr H => opn 17 fr (fun s0 s1 s2 s6 s7 s8 s9 s10 s11 s12 s13 s25 s37 s50 s80 s83 s93 => 
(qRes (C 13 [(.int .i64 1)] H) fun v14 H =>
qNew (.cells z24) .ptr H fun v7 H =>
qSt 3 v7 v14 H fun _ H =>
k [s0, s1, s2, s6, v7, s8, s9, s10, s11, s12, s13, s25, s37, s50, s80, s83, s93] H : R))
noncomputable def r6_0 (k : KT R) : KT R := fun fr H => opn 17 fr (fun s0 s1 s2 s6 s7 s8 s9 s10 s11 s12 s13 s25 s37 s50 s80 s83 s93 => 
(k [s0, s1, s2, (.bool false), s7, s8, s9, s10, s11, s12, s13, s25, s37, s50, s80, s83, s93] H : R))
noncomputable def c6 (C : CallF) (l0 : List AV) (H : AH) (k : AV → AH → R) : R := opn 3 l0 (fun x0 x1 x2 => (qFn (fun kr => (r6_0 (r6_1 C (r6_2 C (r6_3 (r6_4 (qBl (fun k7 => (qLoop (l6_12 C k7))) (r6_13 C (r6_14 (qCd (sel 14) (fun _ => (r6_15 kr)) (fun k6 => k6) (r6_16 (qBl (fun k1 => (qLoop (l6_5 C k1 kr))) (r6_21 C kr)))))))))))))
(fun fr H => k (sel 3 fr) H) [x0, x1, x2, undef, undef, undef, undef, undef, undef, undef, undef, undef, undef, undef, undef, undef, undef] H : R))
/- refectory/refectorylaw12.FragsMeets -/
noncomputable def r7_10 (C : CallF) (k : KT R) : KT R := fun fr H => opn 12 fr (fun s0 s1 s4 s5 s6 s7 s8 s9 s10 s11 s12 s13 => 
(qEql X 57 s13 (.int .i64 0) fun v57 =>
qEql X 4 v57 s12 fun v59 =>
qG v59 true (fun k => k s13 H) H fun v61 H =>
qG v59 true (fun k => qEql X 57 v61 (.int .i64 0) fun v => k v H) H fun v62 H =>
qG v59 true (fun k => k v62 H) H fun v63 H =>
qG v63 false (fun k => k s13 H) H fun v64 H =>
qG v63 false (fun k => qEql X 57 v64 (.int .i64 12) fun v => k v H) H fun v65 H =>
qG v59 true (fun k => qPick v63 (.bool true) v65 fun v => k v H) H fun v66 H =>
qPick v59 v66 (.bool false) fun v67 =>
qG v67 true (fun k => qRes (C 21 [] H) k) H fun v69 H =>
qPick v67 v69 (.bool false) fun v70 =>
k [s0, s1, v70, s5, s6, s7, s8, s9, s10, s11, s12, s13] H : R))
noncomputable def r7_9 (C : CallF) (k : KT R) : KT R := fun fr H => opn 12 fr (fun s0 s1 s4 s5 s6 s7 s8 s9 s10 s11 s12 s13 => 
(qLdA 3 s5 H fun v53 =>
qLdA 2 s10 H fun v54 =>
qRes (C 20 [v53, v54] H) fun v55 H =>
k [s0, s1, s4, s5, s6, s7, s8, s9, s10, s11, s12, v55] H : R))
noncomputable def r7_8 (k : KT R) : KT R := fun fr H => opn 12 fr (fun s0 s1 s4 s5 s6 s7 s8 s9 s10 s11 s12 s13 => 
(qIaA 5 1 s7 s8 fun v46 =>
qLd v46 H fun v47 =>
qIaA 5 1 s7 s9 fun v49 =>
qLd v49 H fun v50 =>
qO (binop X .and 3 v47 v50) fun v51 =>
qNeq X 3 v51 (.int .i64 0) fun v52 =>
k [s0, s1, s4, s5, s6, s7, s8, s9, s10, s11, v52, s13] H : R))
noncomputable def r7_7 (k : KT R) : KT R := fun fr H => opn 12 fr (fun s0 s1 s4 s5 s6 s7 s8 s9 s10 s11 s12 s13 => 
(qBld z36 [(0, 1, (.int .i64 2)), (2, 1, (.str [70]))] fun v38 =>
qRows z36 1 [(0, v38)] fun v39 =>
qBld z36 [(0, 1, (.int .i64 1)), (2, 1, s11), (6, 1, v39)] fun v40 =>
qRows z36 1 [(0, v40)] fun v41 =>
qBld z65 [(4, 1, v41)] fun v42 =>
qRows z65 1 [(0, v42)] fun v43 =>
qFa 0 s10 fun v44 =>
qSt 1 v44 v43 H fun _ H =>
k [s0, s1, s4, s5, s6, s7, s8, s9, s10, s11, s12, s13] H : R))
noncomputable def r7_6 (k : KT R) : KT R := fun fr H => opn 12 fr (fun s0 s1 s4 s5 s6 s7 s8 s9 s10 s11 s12 s13 => 
(qBld z70 [(0, 1, (.str [115,101,108,102])), (1, 1, (.str [99])), (2, 1, (.str [99])), (3, 1, (.str [99])), (4, 1, (.str [102]))] fun v34 =>
qO (indexOf X 70 v34 s8) fun v36 =>
k [s0, s1, s4, s5, s6, s7, s8, s9, s10, v36, s12, s13] H : R))
noncomputable def r7_5 (k : KT R) : KT R := fun fr H => opn 12 fr (fun s0 s1 s4 s5 s6 s7 s8 s9 s10 s11 s12 s13 => 
(qIaA 5 1 s6 s8 fun v22 =>
qLd v22 H fun v23 =>
qIaA 5 1 s6 s9 fun v25 =>
qLd v25 H fun v26 =>
qBld z36 [(0, 1, (.int .i64 1)), (2, 1, (.str [95,95,116,121,112,101,110,97,109,101]))] fun v27 =>
qRows z36 1 [(0, v27)] fun v28 =>
qBld z36 [(0, 1, (.int .i64 3)), (3, 1, v26), (6, 1, v28)] fun v29 =>
qRows z36 1 [(0, v29)] fun v30 =>
qBld z67 [(0, 1, (.str [70])), (1, 1, v23), (3, 1, v30)] fun v31 =>
qRows z67 1 [(0, v31)] fun v32 =>
qBld z46 [(1, 1, v32)] fun v33 =>
qNew (.cells z46) .ptr H fun v10 H =>
qSt 2 v10 v33 H fun _ H =>
k [s0, s1, s4, s5, s6, s7, s8, s9, v10, s11, s12, s13] H : R))
noncomputable def r7_4 (C : CallF) (k : KT R) : KT R := fun fr H => opn 12 fr (fun s0 s1 s4 s5 s6 s7 s8 s9 s10 s11 s12 s13 => 
(qRes (C 14 [s0, (.int .i64 5)] H) fun v18 H =>
qRes (C 14 [s1, (.int .i64 5)] H) fun v20 H =>
k [s0, s1, s4, s5, s6, s7, v18, v20, s10, s11, s12, s13] H : R))
noncomputable def r7_3 (k : KT R) : KT R := fun fr H => opn 12 fr (fun s0 s1 s4 s5 s6 s7 s8 s9 s10 s11 s12 s13 => 
(qBld z71 [(0, 1, (.int .i64 1)), (1, 1, (.int .i64 6)), (2, 1, (.int .i64 2)), (3, 1, (.int .i64 4)), (4, 1, (.int .i64 6))] fun v16 =>
qNew (.cells z71) .ptr H fun v7 H =>
qSt 5 v7 v16 H fun _ H =>
k [s0, s1, s4, s5, s6, v7, s8, s9, s10, s11, s12, s13] H : R))
noncomputable def r7_2 (k : KT R) : KT R := fun fr H => opn 12 fr (fun s0 s1 s4 s5 s6 s7 s8 s9 s10 s11 s12 s13 => 
(qBld z70 [(0, 1, (.str [81,117,101,114,121])), (1, 1, (.str [78,111,100,101])), (2, 1, (.str [65])), (3, 1, (.str [66])), (4, 1, (.str [84,104,105,110,103]))] fun v15 =>
qNew (.cells z70) .ptr H fun v6 H =>
qSt 5 v6 v15 H fun _ H =>
k [s0, s1, s4, s5, v6, s7, s8, s9, s10, s11, s12, s13] H : R))
noncomputable def r7_1 (C : CallF) (k : KT R) : KT R := fun fr H => opn 12 fr (fun s0 s1 s4 s5 s6 s7 s8 s9 s10 s11 s12 s13 => 
(qRes (C 13 [(.int .i64 1)] H) fun v14 H =>
qNew (.cells z24) .ptr H fun v5 H =>
qSt 3 v5 v14 H fun _ H =>
k [s0, s1, s4, v5, s6, s7, s8, s9, s10, s11, s12, s13] H : R))
noncomputable def r7_0 (k : KT R) : KT R := fun fr H => opn 12 fr (fun s0 s1 s4 s5 s6 s7 s8 s9 s10 s11 s12 s13 => 
(k [s0, s1, (.bool false), s5, s6, s7, s8, s9, s10, s11, s12, s13] H : R))
noncomputable def c7 (C : CallF) (l0 : List AV) (H : AH) (k : AV → AH → R) : R := opn 2 l0 (fun x0 x1 => (qFn (fun kr => (r7_0 (r7_1 C (r7_2 (r7_3 (r7_4 C (r7_5 (r7_6 (r7_7 (r7_8 (r7_9 C (r7_10 C kr))))))))))))
(fun fr H => k (sel 2 fr) H) [x0, x1, undef, undef, undef, undef, undef, undef, undef, undef, undef, undef] H : R))
/- refectory/refectorylaw14.MergeTwice -/
noncomputable def r8_11 (C : CallF) (k : KT R) : KT R := fun fr H => opn 11 fr (fun s0 s1 s2 s6 s7 s8 s9 s10 s11 s12 s15 => 
(qLdA 3 s7 H fun v53 =>
qLdA 5 s9 H fun v54 =>
qRows z65 1 [(0, v54)] fun v55 =>
qFa 1 s8 fun v56 =>
qLd v56 H fun v57 =>
qBld z46 [(0, 1, v55), (1, 1, v57)] fun v58 =>
qRes (C 25 [v53, v58] H) fun v59 H =>
qEql X 4 v59 s12 fun v61 =>
qG v61 true (fun k => qLdA 3 s7 H fun v => k v H) H fun v63 H =>
qG v61 true (fun k => qLdA 5 s11 H fun v => k v H) H fun v64 H =>
qG v61 true (fun k => qRows z65 1 [(0, v64)] fun v => k v H) H fun v65 H =>
qG v61 true (fun k => qFa 1 s8 fun v => k v H) H fun v66 H =>
qG v61 true (fun k => qLd v66 H fun v => k v H) H fun v67 H =>
qG v61 true (fun k => qBld z46 [(0, 1, v65), (1, 1, v67)] fun v => k v H) H fun v68 H =>
qG v61 true (fun k => qRes (C 25 [v63, v68] H) k) H fun v69 H =>
qG v61 true (fun k => k s12 H) H fun v70 H =>
qG v61 true (fun k => qEql X 4 v69 v70 fun v => k v H) H fun v71 H =>
qPick v61 v71 (.bool false) fun v72 =>
qG v72 true (fun k => qRes (C 23 [] H) k) H fun v74 H =>
qPick v72 v74 (.bool false) fun v75 =>
k [s0, s1, s2, v75, s7, s8, s9, s10, s11, s12, s15] H : R))
noncomputable def r8_10 (C : CallF) (k : KT R) : KT R := fun fr H => opn 11 fr (fun s0 s1 s2 s6 s7 s8 s9 s10 s11 s12 s15 => 
(qLdA 3 s7 H fun v50 =>
qLdA 2 s8 H fun v51 =>
qRes (C 25 [v50, v51] H) fun v52 H =>
k [s0, s1, s2, s6, s7, s8, s9, s10, s11, v52, s15] H : R))
noncomputable def r8_9 (k : KT R) : KT R := fun fr H => opn 11 fr (fun s0 s1 s2 s6 s7 s8 s9 s10 s11 s12 s15 => 
(qFa 4 s9 fun v43 =>
qLd v43 H fun v44 =>
qFa 4 s9 fun v46 =>
qLd v46 H fun v47 =>
qApp 7 128 (.sl [] .nil) v44 false H fun v45 H =>
qLd v46 H fun w => qSame v47 w (qApp 7 128 v45 v47 false H fun v48 H =>
qFa 4 s11 fun v49 =>
qSt 1 v49 v48 H fun _ H =>
k [s0, s1, s2, s6, s7, s8, s9, s10, s11, s12, s15] H) : R))
noncomputable def r8_8 (k : KT R) : KT R := fun fr H => opn 11 fr (fun s0 s1 s2 s6 s7 s8 s9 s10 s11 s12 s15 => 
(qLdA 5 s9 H fun v42 =>
qNew (.cells z65) .ptr H fun v11 H =>
qSt 5 v11 v42 H fun _ H =>
k [s0, s1, s2, s6, s7, s8, s9, s10, v11, s12, s15] H : R))
noncomputable def r8_7 (k : KT R) : KT R := fun fr H => opn 11 fr (fun s0 s1 s2 s6 s7 s8 s9 s10 s11 s12 s15 => 
(qFa 4 s9 fun v31 =>
qLd v31 H fun v32 =>
qSlc Try.t34.desc 7 v32 (some s10) none none fun v34 =>
qFa 4 s9 fun v36 =>
qLd v36 H fun v37 =>
qSlc Try.t34.desc 7 v37 none (some s10) none fun v39 =>
qApp 7 128 (.sl [] .nil) v34 false H fun v35 H =>
qLd v36 H fun w => qSame v37 w (qApp 7 128 v35 v39 false H fun v40 H =>
qFa 4 s9 fun v41 =>
qSt 1 v41 v40 H fun _ H =>
k [s0, s1, s2, s6, s7, s8, s9, s10, s11, s12, s15] H) : R))
noncomputable def r8_6 (C : CallF) (k : KT R) : KT R := fun fr H => opn 11 fr (fun s0 s1 s2 s6 s7 s8 s9 s10 s11 s12 s15 => 
(qFa 4 s9 fun v27 =>
qLd v27 H fun v28 =>
qLenL v28 fun v29 =>
qRes (C 14 [s2, v29] H) fun v30 H =>
k [s0, s1, s2, s6, s7, s8, s9, v30, s11, s12, s15] H : R))
noncomputable def r8_5 (k : KT R) : KT R := fun fr H => opn 11 fr (fun s0 s1 s2 s6 s7 s8 s9 s10 s11 s12 s15 => 
(qFa 0 s8 fun v22 =>
qLd v22 H fun v23 =>
qIa 5 v23 (.int .i64 0) fun v24 =>
qLdA 5 v24 H fun v25 =>
qNew (.cells z65) .ptr H fun v9 H =>
qSt 5 v9 v25 H fun _ H =>
k [s0, s1, s2, s6, s7, s8, v9, s10, s11, s12, s15] H : R))
noncomputable def r8_4 (C : CallF) (k : KT R) : KT R := fun fr H => opn 11 fr (fun s0 s1 s2 s6 s7 s8 s9 s10 s11 s12 s15 => 
(qLdA 3 s7 H fun v19 =>
qRes (C 24 [v19, s1] H) fun v21 H =>
qNew (.cells z46) .ptr H fun v8 H =>
qSt 2 v8 v21 H fun _ H =>
k [s0, s1, s2, s6, s7, v8, s9, s10, s11, s12, s15] H : R))
noncomputable def r8_3 (C : CallF) (k : KT R) : KT R := fun fr H => opn 11 fr (fun s0 s1 s2 s6 s7 s8 s9 s10 s11 s12 s15 => 
(qRes (C 13 [s0] H) fun v18 H =>
qNew (.cells z24) .ptr H fun v7 H =>
qSt 3 v7 v18 H fun _ H =>
k [s0, s1, s2, s6, v7, s8, s9, s10, s11, s12, s15] H : R))
noncomputable def r8_2 (C : CallF) (k : KT R) : KT R := fun fr H => opn 11 fr (fun s0 s1 s2 s6 s7 s8 s9 s10 s11 s12 s15 => 
(qRes (C 23 [] H) fun v16 H =>
k [s0, s1, s2, v16, s7, s8, s9, s10, s11, s12, s15] H : R))
noncomputable def r8_1 (k : KT R) : KT R := fun fr H => opn 11 fr (fun s0 s1 s2 s6 s7 s8 s9 s10 s11 s12 s15 => 
(qLenL s1 fun v14 =>
qGtr X 3 v14 (.int .i64 50) fun v15 =>
k [s0, s1, s2, s6, s7, s8, s9, s10, s11, s12, v15] H : R))
noncomputable def r8_0 (k : KT R) : KT R := fun fr H => opn 11 fr (fun s0 s1 s2 s6 s7 s8 s9 s10 s11 s12 s15 => 
(k [s0, s1, s2, (.bool false), s7, s8, s9, s10, s11, s12, s15] H : R))
noncomputable def c8 (C : CallF) (l0 : List AV) (H : AH) (k : AV → AH → R) : R := opn 3 l0 (fun x0 x1 x2 => (qFn (fun kr => (r8_0 (r8_1 (qCd (sel 10) (fun _ => (r8_2 C kr)) (fun k1 => k1) (r8_3 C (r8_4 C (r8_5 (r8_6 C (r8_7 (r8_8 (r8_9 (r8_10 C (r8_11 C kr)))))))))))))
(fun fr H => k (sel 3 fr) H) [x0, x1, x2, undef, undef, undef, undef, undef, undef, undef, undef] H : R))
/- refectory/refectorylaw14.MergeKnown -/
noncomputable def r9_5 (C : CallF) (k : KT R) : KT R := fun fr H => opn 7 fr (fun s0 s2 s3 s4 s5 s6 s8 => 
(qEql X 57 s8 (.int .i64 0) fun v24 =>
qG v24 true (fun k => qLdA 2 s6 H fun v => k v H) H fun v27 H =>
qG v24 true (fun k => k s5 H) H fun v29 H =>
qG v24 true (fun k => qRes (C 13 [(.int .i64 1)] H) fun v H => qLdA 2 s6 H fun w => qSame v27 w (k v H)) H fun v26 H =>
qG v24 true (fun k => qRes (C 25 [v26, v27] H) k) H fun v28 H =>
qG v24 true (fun k => qEql X 4 v28 v29 fun v => k v H) H fun v30 H =>
qPick v24 v30 (.bool false) fun v31 =>
qG v31 true (fun k => qRes (C 23 [] H) k) H fun v33 H =>
qPick v31 v33 (.bool false) fun v34 =>
k [s0, v34, s3, s4, s5, s6, s8] H : R))
noncomputable def r9_4 (C : CallF) (k : KT R) : KT R := fun fr H => opn 7 fr (fun s0 s2 s3 s4 s5 s6 s8 => 
(qRes (C 19 [s4] H) fun v19 H =>
qExt v19 0 fun v20 =>
qExt v19 1 fun v21 =>
qExt v19 2 fun v22 =>
qNew (.cells z46) .ptr H fun v6 H =>
qSt 2 v6 v20 H fun _ H =>
k [s0, s2, s3, s4, s5, v6, v22] H : R))
noncomputable def r9_3 (k : KT R) : KT R := fun fr H => opn 7 fr (fun s0 s2 s3 s4 s5 s6 s8 => 
(qBld z76 [(0, 1, (.bool false)), (1, 1, (.bool true)), (2, 1, (.bool false)), (3, 1, (.bool true)), (4, 1, (.bool false)), (5, 1, (.bool false)), (6, 1, (.bool true)), (7, 1, (.bool false)), (8, 1, (.bool false)), (9, 1, (.bool true)), (10, 1, (.bool true)), (11, 1, (.bool false))] fun v14 =>
qO (indexOf X 76 v14 s3) fun v16 =>
k [s0, s2, s3, s4, v16, s6, s8] H : R))
noncomputable def r9_2 (k : KT R) : KT R := fun fr H => opn 7 fr (fun s0 s2 s3 s4 s5 s6 s8 => 
(qBld z75 [(0, 1, (.str [123,120,58,98,40,120,58,49,41,32,120,58,98,40,120,58,50,41,125])), (1, 1, (.str [123,120,58,98,40,120,58,49,32,121,58,91,93,41,32,120,58,98,40,121,58,91,93,32,120,58,49,41,125])), (2, 1, (.str [123,120,58,97,32,120,58,105,125])), (3, 1, (.str [123,99,123,105,100,125,32,99,123,105,100,32,110,97,109,101,125,125])), (4, 1, (.str [123,99,123,120,58,105,100,125,32,99,123,120,58,110,97,109,101,125,125])), (5, 1, (.str [123,102,123,46,46,46,111,110,32,65,123,120,58,97,125,32,46,46,46,111,110,32,66,123,120,58,110,97,109,101,125,125,125])), (6, 1, (.str [123,102,123,46,46,46,111,110,32,65,123,120,58,105,100,125,32,46,46,46,111,110,32,66,123,120,58,105,100,125,125,125])), (7, 1, (.str [123,102,123,46,46,46,111,110,32,65,123,120,58,110,97,109,101,125,32,46,46,46,111,110,32,66,123,120,58,95,95,116,121,112,101,110,97,109,101,125,125,125])), (8, 1, (.str [123,102,123,46,46,46,111,110,32,65,123,110,101,120,116,123,120,58,105,100,125,125,32,46,46,46,111,110,32,66,123,110,101,120,116,123,120,58,110,97,109,101,125,125,125,125])), (9, 1, (.str [123,102,123,46,46,46,111,110,32,65,123,110,101,120,116,123,120,58,105,100,125,125,32,46,46,46,111,110,32,66,123,110,101,120,116,123,120,58,105,100,125,125,125,125])), (10, 1, (.str [123,46,46,46,70,32,120,58,97,125,32,102,114,97,103,109,101,110,116,32,70,32,111,110,32,81,117,101,114,121,123,120,58,97,125])), (11, 1, (.str [123,99,123,110,101,120,116,123,120,58,105,100,125,125,32,46,46,46,70,125,32,102,114,97,103,109,101,110,116,32,70,32,111,110,32,81,117,101,114,121,123,99,123,110,101,120,116,123,120,58,110,97,109,101,125,125,125]))] fun v11 =>
qO (indexOf X 75 v11 s3) fun v13 =>
k [s0, s2, s3, v13, s5, s6, s8] H : R))
noncomputable def r9_1 (C : CallF) (k : KT R) : KT R := fun fr H => opn 7 fr (fun s0 s2 s3 s4 s5 s6 s8 => 
(qRes (C 14 [s0, (.int .i64 12)] H) fun v10 H =>
k [s0, s2, v10, s4, s5, s6, s8] H : R))
noncomputable def r9_0 (k : KT R) : KT R := fun fr H => opn 7 fr (fun s0 s2 s3 s4 s5 s6 s8 => 
(k [s0, (.bool false), s3, s4, s5, s6, s8] H : R))
noncomputable def c9 (C : CallF) (l0 : List AV) (H : AH) (k : AV → AH → R) : R := opn 1 l0 (fun x0 => (qFn (fun kr => (r9_0 (r9_1 C (r9_2 (r9_3 (r9_4 C (r9_5 C kr)))))))
(fun fr H => k (sel 1 fr) H) [x0, undef, undef, undef, undef, undef, undef] H : R))
/- refectory/refectorylaw14.MergeDeep -/
noncomputable def r10_14 (C : CallF) (k : KT R) : KT R := fun fr H => opn 17 fr (fun s0 s1 s2 s6 s7 s8 s9 s10 s11 s12 s13 s14 s16 s17 s19 s26 s39 => 
(qEql X 57 s16 (.int .i64 0) fun v80 =>
qG v80 true (fun k => k s19 H) H fun v82 H =>
qG v80 true (fun k => qEql X 57 v82 (.int .i64 0) fun v => k v H) H fun v83 H =>
qPick v80 v83 (.bool false) fun v84 =>
qG v84 true (fun k => qLdA 3 s7 H fun v => k v H) H fun v86 H =>
qG v84 true (fun k => qLdA 2 s14 H fun v => k v H) H fun v87 H =>
qG v84 true (fun k => qRes (C 25 [v86, v87] H) k) H fun v88 H =>
qG v84 true (fun k => k s1 H) H fun v89 H =>
qG v84 true (fun k => qEql X 4 v88 v89 fun v => k v H) H fun v90 H =>
qPick v84 v90 (.bool false) fun v91 =>
qG v91 true (fun k => qLdA 3 s7 H fun v => k v H) H fun v93 H =>
qG v91 true (fun k => qLdA 2 s17 H fun v => k v H) H fun v94 H =>
qG v91 true (fun k => qRes (C 25 [v93, v94] H) k) H fun v95 H =>
qPick v91 v95 (.bool false) fun v96 =>
qG v96 true (fun k => qRes (C 23 [] H) k) H fun v98 H =>
qPick v96 v98 (.bool false) fun v99 =>
k [s0, s1, s2, v99, s7, s8, s9, s10, s11, s12, s13, s14, s16, s17, s19, s26, s39] H : R))
noncomputable def r10_13 (C : CallF) (k : KT R) : KT R := fun fr H => opn 17 fr (fun s0 s1 s2 s6 s7 s8 s9 s10 s11 s12 s13 s14 s16 s17 s19 s26 s39 => 
(qAdd X 9 (.str [123]) s9 fun v64 =>
qAdd X 9 v64 (.str [120,58,97]) fun v65 =>
qAdd X 9 v65 s11 fun v67 =>
qAdd X 9 v67 (.str [32]) fun v68 =>
qAdd X 9 v68 s10 fun v70 =>
qAdd X 9 v70 (.str [120,58,97]) fun v71 =>
qAdd X 9 v71 s11 fun v73 =>
qAdd X 9 v73 (.str [125]) fun v74 =>
qRes (C 19 [v74] H) fun v75 H =>
qExt v75 0 fun v76 =>
qExt v75 1 fun v77 =>
qExt v75 2 fun v78 =>
qNew (.cells z46) .ptr H fun v17 H =>
qSt 2 v17 v76 H fun _ H =>
k [s0, s1, s2, s6, s7, s8, s9, s10, s11, s12, s13, s14, s16, v17, v78, s26, s39] H : R))
noncomputable def r10_12 (C : CallF) (k : KT R) : KT R := fun fr H => opn 17 fr (fun s0 s1 s2 s6 s7 s8 s9 s10 s11 s12 s13 s14 s16 s17 s19 s26 s39 => 
(qAdd X 9 (.str [123]) s9 fun v47 =>
qAdd X 9 v47 (.str [120,58,97]) fun v48 =>
qAdd X 9 v48 s11 fun v50 =>
qAdd X 9 v50 (.str [32]) fun v51 =>
qAdd X 9 v51 s10 fun v53 =>
qAdd X 9 v53 (.str [120,58,105]) fun v54 =>
qAdd X 9 v54 s11 fun v56 =>
qAdd X 9 v56 (.str [125]) fun v57 =>
qRes (C 19 [v57] H) fun v58 H =>
qExt v58 0 fun v59 =>
qExt v58 1 fun v60 =>
qExt v58 2 fun v61 =>
qNew (.cells z46) .ptr H fun v14 H =>
qSt 2 v14 v59 H fun _ H =>
k [s0, s1, s2, s6, s7, s8, s9, s10, s11, s12, s13, v14, v61, s17, s19, s26, s39] H : R))
noncomputable def r10_6 (k : KT R) : KT R := fun fr H => opn 17 fr (fun s0 s1 s2 s6 s7 s8 s9 s10 s11 s12 s13 s14 s16 s17 s19 s26 s39 => 
(qAdd X 3 s12 (.int .i64 1) fun v28 =>
k [s0, s1, s2, s6, s7, s8, s9, s10, s11, v28, s13, s14, s16, s17, s19, s26, s39] H : R))
noncomputable def r10_11 (k : KT R) : KT R := fun fr H => opn 17 fr (fun s0 s1 s2 s6 s7 s8 s9 s10 s11 s12 s13 s14 s16 s17 s19 s26 s39 => 
(qAdd X 9 s10 s13 fun v42 =>
qAdd X 9 s11 (.str [125]) fun v44 =>
k [s0, s1, s2, s6, s7, s8, s9, v42, v44, s12, s13, s14, s16, s17, s19, s26, s39] H : R))
noncomputable def r10_10 (k : KT R) : KT R := fun fr H => opn 17 fr (fun s0 s1 s2 s6 s7 s8 s9 s10 s11 s12 s13 s14 s16 s17 s19 s26 s39 => 
(k [s0, s1, s2, s6, s7, s8, s9, s10, s11, s12, (.str [111,116,104,101,114,58,115,101,108,102,123]), s14, s16, s17, s19, s26, s39] H : R))
noncomputable def r10_9 (C : CallF) (k : KT R) : KT R := fun fr H => opn 17 fr (fun s0 s1 s2 s6 s7 s8 s9 s10 s11 s12 s13 s14 s16 s17 s19 s26 s39 => 
(qG s1 true (fun k => k s12 H) H fun v34 H =>
qG s1 true (fun k => k s2 H) H fun v35 H =>
qG s1 true (fun k => k s8 H) H fun v36 H =>
qG s1 true (fun k => qRes (C 14 [v35, v36] H) k) H fun v37 H =>
qG s1 true (fun k => qEql X 3 v34 v37 fun v => k v H) H fun v38 H =>
qPick s1 v38 (.bool false) fun v39 =>
k [s0, s1, s2, s6, s7, s8, s9, s10, s11, s12, s13, s14, s16, s17, s19, s26, v39] H : R))
noncomputable def r10_8 (k : KT R) : KT R := fun fr H => opn 17 fr (fun s0 s1 s2 s6 s7 s8 s9 s10 s11 s12 s13 s14 s16 s17 s19 s26 s39 => 
(qAdd X 9 s9 s13 fun v31 =>
k [s0, s1, s2, s6, s7, s8, v31, s10, s11, s12, s13, s14, s16, s17, s19, s26, s39] H : R))
noncomputable def r10_7 (k : KT R) : KT R := fun fr H => opn 17 fr (fun s0 s1 s2 s6 s7 s8 s9 s10 s11 s12 s13 s14 s16 s17 s19 s26 s39 => 
(k [s0, s1, s2, s6, s7, s8, s9, s10, s11, s12, (.str [115,101,108,102,123]), s14, s16, s17, s19, s26, s39] H : R))
noncomputable def r10_5 (k : KT R) : KT R := fun fr H => opn 17 fr (fun s0 s1 s2 s6 s7 s8 s9 s10 s11 s12 s13 s14 s16 s17 s19 s26 s39 => 
(qLss X 3 s12 s8 fun v26 =>
k [s0, s1, s2, s6, s7, s8, s9, s10, s11, s12, s13, s14, s16, s17, s19, v26, s39] H : R))
noncomputable def l10_5 (C : CallF) (k1 : KT R) : KT R → KT R := fun k2 => (r10_5 (qCd (sel 15) (fun k5 => k5) (fun _ => k1) (qBl (fun k3 => (r10_7 (r10_8 (r10_9 C (qCd (sel 16) (fun k4 => (r10_10 k4)) (fun k4 => k4) (r10_11 k3)))))) (r10_6 k2))))
noncomputable def r10_4 (k : KT R) : KT R := fun fr H => opn 17 fr (fun s0 s1 s2 s6 s7 s8 s9 s10 s11 s12 s13 s14 s16 s17 s19 s26 s39 => 
(k [s0, s1, s2, s6, s7, s8, s9, s10, s11, (.int .i64 0), s13, s14, s16, s17, s19, s26, s39] H : R))
noncomputable def r10_3 (k : KT R) : KT R := fun fr H => opn 17 fr (fun s0 s1 s2 s6 s7 s8 s9 s10 s11 s12 s13 s14 s16 s17 s19 s26 s39 => 
(k [s0, s1, s2, s6, s7, s8, (.str []), (.str []), (.str []), s12, s13, s14, s16, s17, s19, s26, s39] H : R))
noncomputable def r10_2 (C : CallF) (k : KT R) : KT R := fun fr H => opn 17 fr (fun s0 s1 s2 s6 s7 s8 s9 s10 s11 s12 s13 s14 s16 s17 s19 s26 s39 => 
(qRes (C 14 [s0, (.int .i64 8)] H) fun v22 H =>
qAdd X 3 (.int .i64 1) v22 fun v23 =>
k [s0, s1, s2, s6, s7, v23, s9, s10, s11, s12, s13, s14, s16, s17, s19, s26, s39] H : R))
noncomputable def r10_1 (C : CallF) (k : KT R) : KT R := fun fr H => opn 17 fr (fun s0 s1 s2 s6 s7 s8 s9 s10 s11 s12 s13 s14 s16 s17 s19 s26 s39 => 
(qRes (C 13 [(.int .i64 1)] H) fun v20 H =>
qNew (.cells z24) .ptr H fun v7 H =>
qSt 3 v7 v20 H fun _ H =>
k [s0, s1, s2, s6, v7, s8, s9, s10, s11, s12, s13, s14, s16, s17, s19, s26, s39] H : R))
noncomputable def r10_0 (k : KT R) : KT R := fun fr H => opn 17 fr (fun s0 s1 s2 s6 s7 s8 s9 s10 s11 s12 s13 s14 s16 s17 s19 s26 s39 => 
(k [s0, s1, s2, (.bool false), s7, s8, s9, s10, s11, s12, s13, s14, s16, s17, s19, s26, s39] H : R))
noncomputable def c10 (C : CallF) (l0 : List AV) (H : AH) (k : AV → AH → R) : R := opn 3 l0 (fun x0 x1 x2 => (qFn (fun kr => (r10_0 (r10_1 C (r10_2 C (r10_3 (r10_4 (qBl (fun k1 => (qLoop (l10_5 C k1))) (r10_12 C (r10_13 C (r10_14 C kr))))))))))
(fun fr H => k (sel 3 fr) H) [x0, x1, x2, undef, undef, undef, undef, undef, undef, undef, undef, undef, undef, undef, undef, undef, undef] H : R))
/- refectory/refectorylaw16.CostGreat -/
noncomputable def r11_20 (C : CallF) (k : KT R) : KT R := fun fr H => opn 15 fr (fun s0 s1 s4 s5 s6 s7 s8 s9 s10 s11 s12 s13 s33 s48 s76 => 
(qLdA 3 s5 H fun v86 =>
qLdA 2 s8 H fun v87 =>
qFa 0 s8 fun v88 =>
qLd v88 H fun v89 =>
qIa 5 v89 (.int .i64 0) fun v90 =>
qLdA 5 v90 H fun v91 =>
qMul X 3 (.int .i64 3) s9 fun v94 =>
qAdd X 3 (.int .i64 1) v94 fun v95 =>
qO (foldO min2 v95 [(.int .i64 1099511627776)]) fun v96 =>
qRes (C 26 [v86, v87, v91] H) fun v92 H =>
qEql X 3 v92 v96 fun v97 =>
qG v97 true (fun k => qLdA 2 s8 H fun v => k v H) H fun v99 H =>
qG v97 true (fun k => qFa 0 s8 fun v => k v H) H fun v100 H =>
qG v97 true (fun k => qLd v100 H fun v => k v H) H fun v101 H =>
qG v97 true (fun k => qIa 5 v101 (.int .i64 0) fun v => k v H) H fun v102 H =>
qG v97 true (fun k => qLdA 5 v102 H fun v => k v H) H fun v103 H =>
qG v97 true (fun k => k s6 H) H fun v105 H =>
qG v97 true (fun k => qAdd X 3 v105 (.int .i64 2) fun v => k v H) H fun v106 H =>
qG v97 true (fun k => qRes (C 27 [v99, v103] H) k) H fun v104 H =>
qG v97 true (fun k => qEql X 3 v104 v106 fun v => k v H) H fun v107 H =>
qPick v97 v107 (.bool false) fun v108 =>
qG v108 true (fun k => qRes (C 28 [] H) k) H fun v110 H =>
qPick v108 v110 (.bool false) fun v111 =>
k [s0, s1, v111, s5, s6, s7, s8, s9, s10, s11, s12, s13, s33, s48, s76] H : R))
noncomputable def r11_7 (k : KT R) : KT R := fun fr H => opn 15 fr (fun s0 s1 s4 s5 s6 s7 s8 s9 s10 s11 s12 s13 s33 s48 s76 => 
(qSub X 3 s10 (.int .i64 1) fun v35 =>
k [s0, s1, s4, s5, s6, s7, s8, s9, v35, s11, s12, s13, s33, s48, s76] H : R))
noncomputable def r11_19 (k : KT R) : KT R := fun fr H => opn 15 fr (fun s0 s1 s4 s5 s6 s7 s8 s9 s10 s11 s12 s13 s33 s48 s76 => 
(qMul X 3 (.int .i64 3) s9 fun v83 =>
qAdd X 3 (.int .i64 1) v83 fun v84 =>
qO (foldO min2 v84 [(.int .i64 1099511627776)]) fun v85 =>
k [s0, s1, s4, s5, s6, s7, s8, v85, s10, s11, s12, s13, s33, s48, s76] H : R))
noncomputable def r11_18 (k : KT R) : KT R := fun fr H => opn 15 fr (fun s0 s1 s4 s5 s6 s7 s8 s9 s10 s11 s12 s13 s33 s48 s76 => 
(qMul X 3 s9 s7 fun v79 =>
qAdd X 3 v79 (.int .i64 1) fun v80 =>
qO (foldO min2 v80 [(.int .i64 1099511627776)]) fun v81 =>
k [s0, s1, s4, s5, s6, s7, s8, v81, s10, s11, s12, s13, s33, s48, s76] H : R))
noncomputable def r11_17 (k : KT R) : KT R := fun fr H => opn 15 fr (fun s0 s1 s4 s5 s6 s7 s8 s9 s10 s11 s12 s13 s33 s48 s76 => 
(qAdd X 3 s10 (.int .i64 1) fun v74 =>
qLss X 3 v74 s6 fun v76 =>
k [s0, s1, s4, s5, s6, s7, s8, s9, s10, s11, s12, s13, s33, s48, v76] H : R))
noncomputable def r11_16 (k : KT R) : KT R := fun fr H => opn 15 fr (fun s0 s1 s4 s5 s6 s7 s8 s9 s10 s11 s12 s13 s33 s48 s76 => 
(qFa 1 s8 fun v67 =>
qLd v67 H fun v68 =>
qLdA 4 s11 H fun v69 =>
qRows z67 1 [(0, v69)] fun v70 =>
qApp 4 80 v68 v70 false H fun v71 H =>
qFa 1 s8 fun v72 =>
qSt 1 v72 v71 H fun _ H =>
k [s0, s1, s4, s5, s6, s7, s8, s9, s10, s11, s12, s13, s33, s48, s76] H : R))
noncomputable def r11_15 (k : KT R) : KT R := fun fr H => opn 15 fr (fun s0 s1 s4 s5 s6 s7 s8 s9 s10 s11 s12 s13 s33 s48 s76 => 
(qBld z36 [(0, 1, (.int .i64 1)), (2, 1, (.str [107,105,100,115])), (6, 1, s12)] fun v64 =>
qRows z36 1 [(0, v64)] fun v65 =>
qFa 3 s11 fun v66 =>
qSt 1 v66 v65 H fun _ H =>
k [s0, s1, s4, s5, s6, s7, s8, s9, s10, s11, s12, s13, s33, s48, s76] H : R))
noncomputable def r11_14 (k : KT R) : KT R := fun fr H => opn 15 fr (fun s0 s1 s4 s5 s6 s7 s8 s9 s10 s11 s12 s13 s33 s48 s76 => 
(qBld z36 [(0, 1, (.int .i64 1)), (2, 1, (.str [95,95,116,121,112,101,110,97,109,101]))] fun v60 =>
qRows z36 1 [(0, v60)] fun v61 =>
qApp 7 128 s12 v61 false H fun v62 H =>
k [s0, s1, s4, s5, s6, s7, s8, s9, s10, s11, v62, s13, s33, s48, s76] H : R))
noncomputable def r11_12 (k : KT R) : KT R := fun fr H => opn 15 fr (fun s0 s1 s4 s5 s6 s7 s8 s9 s10 s11 s12 s13 s33 s48 s76 => 
(qAdd X 3 s13 (.int .i64 1) fun v50 =>
k [s0, s1, s4, s5, s6, s7, s8, s9, s10, s11, s12, v50, s33, s48, s76] H : R))
noncomputable def r11_13 (C : CallF) (k : KT R) : KT R := fun fr H => opn 15 fr (fun s0 s1 s4 s5 s6 s7 s8 s9 s10 s11 s12 s13 s33 s48 s76 => 
(qAdd X 3 s10 (.int .i64 1) fun v53 =>
qRes (C 17 [v53] H) fun v54 H =>
qAdd X 9 (.str [70]) v54 fun v55 =>
qBld z36 [(0, 1, (.int .i64 2)), (2, 1, v55)] fun v56 =>
qRows z36 1 [(0, v56)] fun v57 =>
qApp 7 128 s12 v57 false H fun v58 H =>
k [s0, s1, s4, s5, s6, s7, s8, s9, s10, s11, v58, s13, s33, s48, s76] H : R))
noncomputable def r11_11 (k : KT R) : KT R := fun fr H => opn 15 fr (fun s0 s1 s4 s5 s6 s7 s8 s9 s10 s11 s12 s13 s33 s48 s76 => 
(qLss X 3 s13 s7 fun v42 =>
qG v42 true (fun k => k s10 H) H fun v44 H =>
qG v42 true (fun k => qAdd X 3 v44 (.int .i64 1) fun v => k v H) H fun v45 H =>
qG v42 true (fun k => k s6 H) H fun v46 H =>
qG v42 true (fun k => qLss X 3 v45 v46 fun v => k v H) H fun v47 H =>
qPick v42 v47 (.bool false) fun v48 =>
k [s0, s1, s4, s5, s6, s7, s8, s9, s10, s11, s12, s13, s33, v48, s76] H : R))
noncomputable def l11_8 (C : CallF) (k5 : KT R) : KT R → KT R := fun k6 => (r11_11 (qCd (sel 13) (fun k8 => k8) (fun _ => k5) (qBl (fun k7 => (r11_13 C k7)) (r11_12 k6))))
noncomputable def r11_10 (k : KT R) : KT R := fun fr H => opn 15 fr (fun s0 s1 s4 s5 s6 s7 s8 s9 s10 s11 s12 s13 s33 s48 s76 => 
(k [s0, s1, s4, s5, s6, s7, s8, s9, s10, s11, s12, (.int .i64 0), s33, s48, s76] H : R))
noncomputable def r11_9 (k : KT R) : KT R := fun fr H => opn 15 fr (fun s0 s1 s4 s5 s6 s7 s8 s9 s10 s11 s12 s13 s33 s48 s76 => 
(k [s0, s1, s4, s5, s6, s7, s8, s9, s10, s11, (.sl [] .nil), s13, s33, s48, s76] H : R))
noncomputable def r11_8 (C : CallF) (k : KT R) : KT R := fun fr H => opn 15 fr (fun s0 s1 s4 s5 s6 s7 s8 s9 s10 s11 s12 s13 s33 s48 s76 => 
(qRes (C 17 [s10] H) fun v37 H =>
qAdd X 9 (.str [70]) v37 fun v38 =>
qBld z67 [(0, 1, v38), (1, 1, (.str [65]))] fun v39 =>
qNew (.cells z67) .ptr H fun v11 H =>
qSt 4 v11 v39 H fun _ H =>
k [s0, s1, s4, s5, s6, s7, s8, s9, s10, v11, s12, s13, s33, s48, s76] H : R))
noncomputable def r11_6 (k : KT R) : KT R := fun fr H => opn 15 fr (fun s0 s1 s4 s5 s6 s7 s8 s9 s10 s11 s12 s13 s33 s48 s76 => 
(qGeq X 3 s10 (.int .i64 0) fun v33 =>
k [s0, s1, s4, s5, s6, s7, s8, s9, s10, s11, s12, s13, v33, s48, s76] H : R))
noncomputable def l11_9 (C : CallF) (k1 : KT R) : KT R → KT R := fun k2 => (r11_6 (qCd (sel 12) (fun k9 => k9) (fun _ => k1) (qBl (fun k3 => (r11_8 C (r11_9 (r11_10 (qBl (fun k5 => (qLoop (l11_8 C k5))) (r11_14 (r11_15 (r11_16 (r11_17 (qCd (sel 14) (fun k4 => (r11_18 k4)) (fun k4 => k4) (r11_19 k3))))))))))) (r11_7 k2))))
noncomputable def r11_5 (k : KT R) : KT R := fun fr H => opn 15 fr (fun s0 s1 s4 s5 s6 s7 s8 s9 s10 s11 s12 s13 s33 s48 s76 => 
(qSub X 3 s6 (.int .i64 1) fun v31 =>
k [s0, s1, s4, s5, s6, s7, s8, s9, v31, s11, s12, s13, s33, s48, s76] H : R))
noncomputable def r11_4 (k : KT R) : KT R := fun fr H => opn 15 fr (fun s0 s1 s4 s5 s6 s7 s8 s9 s10 s11 s12 s13 s33 s48 s76 => 
(k [s0, s1, s4, s5, s6, s7, s8, (.int .i64 1), s10, s11, s12, s13, s33, s48, s76] H : R))
noncomputable def r11_3 (k : KT R) : KT R := fun fr H => opn 15 fr (fun s0 s1 s4 s5 s6 s7 s8 s9 s10 s11 s12 s13 s33 s48 s76 => 
(qBld z36 [(0, 1, (.int .i64 2)), (2, 1, (.str [70,48]))] fun v21 =>
qRows z36 1 [(0, v21)] fun v22 =>
qBld z36 [(0, 1, (.int .i64 3)), (3, 1, (.str [65])), (6, 1, v22)] fun v23 =>
qRows z36 1 [(0, v23)] fun v24 =>
qBld z36 [(0, 1, (.int .i64 1)), (2, 1, (.str [100])), (6, 1, v24)] fun v25 =>
qRows z36 1 [(0, v25)] fun v26 =>
qBld z65 [(4, 1, v26)] fun v27 =>
qRows z65 1 [(0, v27)] fun v28 =>
qBld z46 [(0, 1, v28)] fun v29 =>
qNew (.cells z46) .ptr H fun v8 H =>
qSt 2 v8 v29 H fun _ H =>
k [s0, s1, s4, s5, s6, s7, v8, s9, s10, s11, s12, s13, s33, s48, s76] H : R))
noncomputable def r11_2 (C : CallF) (k : KT R) : KT R := fun fr H => opn 15 fr (fun s0 s1 s4 s5 s6 s7 s8 s9 s10 s11 s12 s13 s33 s48 s76 => 
(qRes (C 14 [s0, (.int .i64 14)] H) fun v16 H =>
qAdd X 3 (.int .i64 1) v16 fun v17 =>
qRes (C 14 [s1, (.int .i64 3)] H) fun v19 H =>
qAdd X 3 (.int .i64 1) v19 fun v20 =>
k [s0, s1, s4, s5, v17, v20, s8, s9, s10, s11, s12, s13, s33, s48, s76] H : R))
noncomputable def r11_1 (C : CallF) (k : KT R) : KT R := fun fr H => opn 15 fr (fun s0 s1 s4 s5 s6 s7 s8 s9 s10 s11 s12 s13 s33 s48 s76 => 
(qRes (C 13 [(.int .i64 1)] H) fun v14 H =>
qNew (.cells z24) .ptr H fun v5 H =>
qSt 3 v5 v14 H fun _ H =>
k [s0, s1, s4, v5, s6, s7, s8, s9, s10, s11, s12, s13, s33, s48, s76] H : R))
noncomputable def r11_0 (k : KT R) : KT R := fun fr H => opn 15 fr (fun s0 s1 s4 s5 s6 s7 s8 s9 s10 s11 s12 s13 s33 s48 s76 => 
(k [s0, s1, (.bool false), s5, s6, s7, s8, s9, s10, s11, s12, s13, s33, s48, s76] H : R))
noncomputable def c11 (C : CallF) (l0 : List AV) (H : AH) (k : AV → AH → R) : R := opn 2 l0 (fun x0 x1 => (qFn (fun kr => (r11_0 (r11_1 C (r11_2 C (r11_3 (r11_4 (r11_5 (qBl (fun k1 => (qLoop (l11_9 C k1))) (r11_20 C kr)))))))))
(fun fr H => k (sel 2 fr) H) [x0, x1, undef, undef, undef, undef, undef, undef, undef, undef, undef, undef, undef, undef, undef] H : R))
/- refectory/refectorylaw16.CostAdds -/
noncomputable def r12_22 (C : CallF) (k : KT R) : KT R := fun fr H => opn 20 fr (fun s0 s1 s2 s6 s7 s8 s9 s10 s11 s12 s13 s14 s15 s17 s18 s28 s39 s50 s73 s75 => 
(qLdA 3 s7 H fun v76 =>
qLdA 2 s15 H fun v77 =>
qFa 0 s15 fun v78 =>
qLd v78 H fun v79 =>
qIa 5 v79 (.int .i64 0) fun v80 =>
qLdA 5 v80 H fun v81 =>
qAdd X 3 (.int .i64 1) s8 fun v84 =>
qMul X 3 (.int .i64 5) s9 fun v86 =>
qAdd X 3 v84 v86 fun v87 =>
qMul X 3 s10 (.int .i64 13) fun v89 =>
qAdd X 3 v87 v89 fun v90 =>
qRes (C 26 [v76, v77, v81] H) fun v82 H =>
qEql X 3 v82 v90 fun v91 =>
qG v91 true (fun k => qLdA 2 s15 H fun v => k v H) H fun v93 H =>
qG v91 true (fun k => qFa 0 s15 fun v => k v H) H fun v94 H =>
qG v91 true (fun k => qLd v94 H fun v => k v H) H fun v95 H =>
qG v91 true (fun k => qIa 5 v95 (.int .i64 0) fun v => k v H) H fun v96 H =>
qG v91 true (fun k => qLdA 5 v96 H fun v => k v H) H fun v97 H =>
qG v91 true (fun k => k s18 H) H fun v99 H =>
qG v91 true (fun k => qRes (C 27 [v93, v97] H) k) H fun v98 H =>
qG v91 true (fun k => qEql X 3 v98 v99 fun v => k v H) H fun v100 H =>
qPick v91 v100 (.bool false) fun v101 =>
qG v101 true (fun k => qRes (C 28 [] H) k) H fun v103 H =>
qPick v101 v103 (.bool false) fun v104 =>
k [s0, s1, s2, v104, s7, s8, s9, s10, s11, s12, s13, s14, s15, s17, s18, s28, s39, s50, s73, s75] H : R))
noncomputable def r12_21 (k : KT R) : KT R := fun fr H => opn 20 fr (fun s0 s1 s2 s6 s7 s8 s9 s10 s11 s12 s13 s14 s15 s17 s18 s28 s39 s50 s73 s75 => 
(k [s0, s1, s2, s6, s7, s8, s9, s10, s11, s12, s13, s14, s15, s17, (.int .i64 2), s28, s39, s50, s73, s75] H : R))
noncomputable def r12_20 (k : KT R) : KT R := fun fr H => opn 20 fr (fun s0 s1 s2 s6 s7 s8 s9 s10 s11 s12 s13 s14 s15 s17 s18 s28 s39 s50 s73 s75 => 
(qGtr X 3 s10 (.int .i64 0) fun v75 =>
k [s0, s1, s2, s6, s7, s8, s9, s10, s11, s12, s13, s14, s15, s17, s18, s28, s39, s50, s73, v75] H : R))
noncomputable def r12_19 (k : KT R) : KT R := fun fr H => opn 20 fr (fun s0 s1 s2 s6 s7 s8 s9 s10 s11 s12 s13 s14 s15 s17 s18 s28 s39 s50 s73 s75 => 
(k [s0, s1, s2, s6, s7, s8, s9, s10, s11, s12, s13, s14, s15, s17, (.int .i64 1), s28, s39, s50, s73, s75] H : R))
noncomputable def r12_18 (k : KT R) : KT R := fun fr H => opn 20 fr (fun s0 s1 s2 s6 s7 s8 s9 s10 s11 s12 s13 s14 s15 s17 s18 s28 s39 s50 s73 s75 => 
(k [s0, s1, s2, (.bool false), s7, s8, s9, s10, s11, s12, s13, s14, s15, s17, s18, s28, s39, s50, s73, s75] H : R))
noncomputable def r12_17 (k : KT R) : KT R := fun fr H => opn 20 fr (fun s0 s1 s2 s6 s7 s8 s9 s10 s11 s12 s13 s14 s15 s17 s18 s28 s39 s50 s73 s75 => 
(qNeq X 57 s17 (.int .i64 0) fun v67 =>
qG v67 false (fun k => qFa 0 s15 fun v => k v H) H fun v69 H =>
qG v67 false (fun k => qLd v69 H fun v => k v H) H fun v70 H =>
qG v67 false (fun k => qLenL v70 fun v => k v H) H fun v71 H =>
qG v67 false (fun k => qNeq X 3 v71 (.int .i64 1) fun v => k v H) H fun v72 H =>
qPick v67 (.bool true) v72 fun v73 =>
k [s0, s1, s2, s6, s7, s8, s9, s10, s11, s12, s13, s14, s15, s17, s18, s28, s39, s50, v73, s75] H : R))
noncomputable def r12_16 (C : CallF) (k : KT R) : KT R := fun fr H => opn 20 fr (fun s0 s1 s2 s6 s7 s8 s9 s10 s11 s12 s13 s14 s15 s17 s18 s28 s39 s50 s73 s75 => 
(qAdd X 9 s11 (.str [125]) fun v61 =>
qRes (C 19 [v61] H) fun v62 H =>
qExt v62 0 fun v63 =>
qExt v62 1 fun v64 =>
qExt v62 2 fun v65 =>
qNew (.cells z46) .ptr H fun v15 H =>
qSt 2 v15 v63 H fun _ H =>
k [s0, s1, s2, s6, s7, s8, s9, s10, s11, s12, s13, s14, v15, v65, s18, s28, s39, s50, s73, s75] H : R))
noncomputable def r12_14 (k : KT R) : KT R := fun fr H => opn 20 fr (fun s0 s1 s2 s6 s7 s8 s9 s10 s11 s12 s13 s14 s15 s17 s18 s28 s39 s50 s73 s75 => 
(qAdd X 3 s14 (.int .i64 1) fun v52 =>
k [s0, s1, s2, s6, s7, s8, s9, s10, s11, s12, s13, v52, s15, s17, s18, s28, s39, s50, s73, s75] H : R))
noncomputable def r12_15 (C : CallF) (k : KT R) : KT R := fun fr H => opn 20 fr (fun s0 s1 s2 s6 s7 s8 s9 s10 s11 s12 s13 s14 s15 s17 s18 s28 s39 s50 s73 s75 => 
(qAdd X 9 s11 (.str [32,99]) fun v54 =>
qRes (C 17 [s14] H) fun v56 H =>
qAdd X 9 v54 v56 fun v57 =>
qAdd X 9 v57 (.str [58,100,123,105,100,32,46,46,46,111,110,32,65,123,97,125,125]) fun v58 =>
k [s0, s1, s2, s6, s7, s8, s9, s10, v58, s12, s13, s14, s15, s17, s18, s28, s39, s50, s73, s75] H : R))
noncomputable def r12_13 (k : KT R) : KT R := fun fr H => opn 20 fr (fun s0 s1 s2 s6 s7 s8 s9 s10 s11 s12 s13 s14 s15 s17 s18 s28 s39 s50 s73 s75 => 
(qLss X 3 s14 s10 fun v50 =>
k [s0, s1, s2, s6, s7, s8, s9, s10, s11, s12, s13, s14, s15, s17, s18, s28, s39, v50, s73, s75] H : R))
noncomputable def l12_6 (C : CallF) (k3 : KT R) : KT R → KT R := fun k4 => (r12_13 (qCd (sel 17) (fun k6 => k6) (fun _ => k3) (qBl (fun k5 => (r12_15 C k5)) (r12_14 k4))))
noncomputable def r12_12 (k : KT R) : KT R := fun fr H => opn 20 fr (fun s0 s1 s2 s6 s7 s8 s9 s10 s11 s12 s13 s14 s15 s17 s18 s28 s39 s50 s73 s75 => 
(k [s0, s1, s2, s6, s7, s8, s9, s10, s11, s12, s13, (.int .i64 0), s15, s17, s18, s28, s39, s50, s73, s75] H : R))
noncomputable def r12_10 (k : KT R) : KT R := fun fr H => opn 20 fr (fun s0 s1 s2 s6 s7 s8 s9 s10 s11 s12 s13 s14 s15 s17 s18 s28 s39 s50 s73 s75 => 
(qAdd X 3 s13 (.int .i64 1) fun v41 =>
k [s0, s1, s2, s6, s7, s8, s9, s10, s11, s12, v41, s14, s15, s17, s18, s28, s39, s50, s73, s75] H : R))
noncomputable def r12_11 (C : CallF) (k : KT R) : KT R := fun fr H => opn 20 fr (fun s0 s1 s2 s6 s7 s8 s9 s10 s11 s12 s13 s14 s15 s17 s18 s28 s39 s50 s73 s75 => 
(qAdd X 9 s11 (.str [32,98]) fun v43 =>
qRes (C 17 [s13] H) fun v45 H =>
qAdd X 9 v43 v45 fun v46 =>
qAdd X 9 v46 (.str [58,104]) fun v47 =>
k [s0, s1, s2, s6, s7, s8, s9, s10, v47, s12, s13, s14, s15, s17, s18, s28, s39, s50, s73, s75] H : R))
noncomputable def r12_9 (k : KT R) : KT R := fun fr H => opn 20 fr (fun s0 s1 s2 s6 s7 s8 s9 s10 s11 s12 s13 s14 s15 s17 s18 s28 s39 s50 s73 s75 => 
(qLss X 3 s13 s9 fun v39 =>
k [s0, s1, s2, s6, s7, s8, s9, s10, s11, s12, s13, s14, s15, s17, s18, s28, v39, s50, s73, s75] H : R))
noncomputable def l12_10 (C : CallF) (k7 : KT R) : KT R → KT R := fun k8 => (r12_9 (qCd (sel 16) (fun k10 => k10) (fun _ => k7) (qBl (fun k9 => (r12_11 C k9)) (r12_10 k8))))
noncomputable def r12_8 (k : KT R) : KT R := fun fr H => opn 20 fr (fun s0 s1 s2 s6 s7 s8 s9 s10 s11 s12 s13 s14 s15 s17 s18 s28 s39 s50 s73 s75 => 
(k [s0, s1, s2, s6, s7, s8, s9, s10, s11, s12, (.int .i64 0), s14, s15, s17, s18, s28, s39, s50, s73, s75] H : R))
noncomputable def r12_6 (k : KT R) : KT R := fun fr H => opn 20 fr (fun s0 s1 s2 s6 s7 s8 s9 s10 s11 s12 s13 s14 s15 s17 s18 s28 s39 s50 s73 s75 => 
(qAdd X 3 s12 (.int .i64 1) fun v30 =>
k [s0, s1, s2, s6, s7, s8, s9, s10, s11, v30, s13, s14, s15, s17, s18, s28, s39, s50, s73, s75] H : R))
noncomputable def r12_7 (C : CallF) (k : KT R) : KT R := fun fr H => opn 20 fr (fun s0 s1 s2 s6 s7 s8 s9 s10 s11 s12 s13 s14 s15 s17 s18 s28 s39 s50 s73 s75 => 
(qAdd X 9 s11 (.str [32,97]) fun v32 =>
qRes (C 17 [s12] H) fun v34 H =>
qAdd X 9 v32 v34 fun v35 =>
qAdd X 9 v35 (.str [58,97]) fun v36 =>
k [s0, s1, s2, s6, s7, s8, s9, s10, v36, s12, s13, s14, s15, s17, s18, s28, s39, s50, s73, s75] H : R))
noncomputable def r12_5 (k : KT R) : KT R := fun fr H => opn 20 fr (fun s0 s1 s2 s6 s7 s8 s9 s10 s11 s12 s13 s14 s15 s17 s18 s28 s39 s50 s73 s75 => 
(qLss X 3 s12 s8 fun v28 =>
k [s0, s1, s2, s6, s7, s8, s9, s10, s11, s12, s13, s14, s15, s17, s18, v28, s39, s50, s73, s75] H : R))
noncomputable def l12_14 (C : CallF) (k11 : KT R) : KT R → KT R := fun k12 => (r12_5 (qCd (sel 15) (fun k14 => k14) (fun _ => k11) (qBl (fun k13 => (r12_7 C k13)) (r12_6 k12))))
noncomputable def r12_4 (k : KT R) : KT R := fun fr H => opn 20 fr (fun s0 s1 s2 s6 s7 s8 s9 s10 s11 s12 s13 s14 s15 s17 s18 s28 s39 s50 s73 s75 => 
(k [s0, s1, s2, s6, s7, s8, s9, s10, s11, (.int .i64 0), s13, s14, s15, s17, s18, s28, s39, s50, s73, s75] H : R))
noncomputable def r12_3 (k : KT R) : KT R := fun fr H => opn 20 fr (fun s0 s1 s2 s6 s7 s8 s9 s10 s11 s12 s13 s14 s15 s17 s18 s28 s39 s50 s73 s75 => 
(k [s0, s1, s2, s6, s7, s8, s9, s10, (.str [123,95,95,116,121,112,101,110,97,109,101]), s12, s13, s14, s15, s17, s18, s28, s39, s50, s73, s75] H : R))
noncomputable def r12_2 (C : CallF) (k : KT R) : KT R := fun fr H => opn 20 fr (fun s0 s1 s2 s6 s7 s8 s9 s10 s11 s12 s13 s14 s15 s17 s18 s28 s39 s50 s73 s75 => 
(qRes (C 14 [s0, (.int .i64 10)] H) fun v21 H =>
qRes (C 14 [s1, (.int .i64 10)] H) fun v23 H =>
qRes (C 14 [s2, (.int .i64 10)] H) fun v25 H =>
k [s0, s1, s2, s6, s7, v21, v23, v25, s11, s12, s13, s14, s15, s17, s18, s28, s39, s50, s73, s75] H : R))
noncomputable def r12_1 (C : CallF) (k : KT R) : KT R := fun fr H => opn 20 fr (fun s0 s1 s2 s6 s7 s8 s9 s10 s11 s12 s13 s14 s15 s17 s18 s28 s39 s50 s73 s75 => 
(qRes (C 13 [(.int .i64 1)] H) fun v19 H =>
qNew (.cells z24) .ptr H fun v7 H =>
qSt 3 v7 v19 H fun _ H =>
k [s0, s1, s2, s6, v7, s8, s9, s10, s11, s12, s13, s14, s15, s17, s18, s28, s39, s50, s73, s75] H : R))
noncomputable def r12_0 (k : KT R) : KT R := fun fr H => opn 20 fr (fun s0 s1 s2 s6 s7 s8 s9 s10 s11 s12 s13 s14 s15 s17 s18 s28 s39 s50 s73 s75 => 
(k [s0, s1, s2, (.bool false), s7, s8, s9, s10, s11, s12, s13, s14, s15, s17, s18, s28, s39, s50, s73, s75] H : R))
noncomputable def c12 (C : CallF) (l0 : List AV) (H : AH) (k : AV → AH → R) : R := opn 3 l0 (fun x0 x1 x2 => (qFn (fun kr => (r12_0 (r12_1 C (r12_2 C (r12_3 (r12_4 (qBl (fun k11 => (qLoop (l12_14 C k11))) (r12_8 (qBl (fun k7 => (qLoop (l12_10 C k7))) (r12_12 (qBl (fun k3 => (qLoop (l12_6 C k3))) (r12_16 C (r12_17 (qCd (sel 18) (fun _ => (r12_18 kr)) (fun k2 => k2) (r12_19 (r12_20 (qCd (sel 19) (fun k1 => (r12_21 k1)) (fun k1 => k1) (r12_22 C kr))))))))))))))))))
(fun fr H => k (sel 3 fr) H) [x0, x1, x2, undef, undef, undef, undef, undef, undef, undef, undef, undef, undef, undef, undef, undef, undef, undef, undef, undef] H : R))
/- refectory/refectorylaw00.Schema -/
noncomputable def r13_5 (k : KT R) : KT R := fun fr H => opn 5 fr (fun s0 s2 s3 s4 s9 => 
(qLdA 3 s4 H fun v16 =>
qSt 3 s2 v16 H fun _ H =>
k [s0, s2, s3, s4, s9] H : R))
noncomputable def r13_4 (C : CallF) (k : KT R) : KT R := fun fr H => opn 5 fr (fun s0 s2 s3 s4 s9 => 
(qRes (C 29 [s3] H) fun v12 H =>
qExt v12 0 fun v13 =>
qExt v12 1 fun v14 =>
qExt v12 2 fun v15 =>
qNew (.cells z24) .ptr H fun v4 H =>
qSt 3 v4 v13 H fun _ H =>
k [s0, s2, s3, v4, s9] H : R))
noncomputable def r13_3 (k : KT R) : KT R := fun fr H => opn 5 fr (fun s0 s2 s3 s4 s9 => 
(k [s0, s2, (.str [115,99,104,101,109,97,123,113,117,101,114,121,58,82,111,111,116,125,32,116,121,112,101,32,82,111,111,116,123,111,110,101,58,91,91,73,110,116,33,93,93,32,116,119,111,58,91,76,101,97,102,93,32,116,104,114,101,101,40,110,58,73,110,116,33,41,58,76,101,97,102,33,64,99,111,115,116,40,110,58,53,48,41,32,102,111,117,114,58,67,111,108,111,114,33,125,32,116,121,112,101,32,76,101,97,102,123,118,58,73,110,116,33,32,119,58,76,101,97,102,32,120,58,91,76,101,97,102,33,93,125,32,101,110,117,109,32,67,111,108,111,114,123,82,69,68,32,71,82,69,69,78,125]), s4, s9] H : R))
noncomputable def r13_2 (C : CallF) (k : KT R) : KT R := fun fr H => opn 5 fr (fun s0 s2 s3 s4 s9 => 
(qRes (C 14 [s0, (.int .i64 4)] H) fun v8 H =>
qEql X 3 v8 (.int .i64 0) fun v9 =>
k [s0, s2, s3, s4, v9] H : R))
noncomputable def r13_1 (k : KT R) : KT R := fun fr H => opn 5 fr (fun s0 s2 s3 s4 s9 => 
(k [s0, s2, (.str [116,121,112,101,32,81,117,101,114,121,123,97,58,73,110,116,32,98,40,120,58,73,110,116,61,49,32,121,58,91,83,116,114,105,110,103,33,93,41,58,83,116,114,105,110,103,32,99,58,78,111,100,101,32,100,58,91,78,111,100,101,33,93,33,32,101,58,75,105,110,100,32,102,58,84,104,105,110,103,32,103,58,91,84,104,105,110,103,93,32,104,40,105,110,58,73,110,41,58,70,108,111,97,116,33,64,99,111,115,116,40,110,58,53,41,32,105,58,73,68,32,107,40,97,110,121,58,65,110,121,41,58,65,110,121,32,115,101,108,102,58,81,117,101,114,121,33,125,32,105,110,116,101,114,102,97,99,101,32,78,111,100,101,123,105,100,58,73,68,33,32,110,97,109,101,58,83,116,114,105,110,103,32,110,101,120,116,58,78,111,100,101,125,32,116,121,112,101,32,65,32,105,109,112,108,101,109,101,110,116,115,32,78,111,100,101,123,105,100,58,73,68,33,32,110,97,109,101,58,83,116,114,105,110,103,32,110,101,120,116,58,78,111,100,101,32,97,58,73,110,116,64,99,111,115,116,40,110,58,51,41,32,107,105,100,115,58,91,65,93,125,32,116,121,112,101,32,66,32,105,109,112,108,101,109,101,110,116,115,32,78,111,100,101,123,105,100,58,73,68,33,32,110,97,109,101,58,83,116,114,105,110,103,32,110,101,120,116,58,66,32,98,40,122,58,66,111,111,108,101,97,110,33,41,58,66,111,111,108,101,97,110,125,32,117,110,105,111,110,32,84,104,105,110,103,61,65,124,66,32,101,110,117,109,32,75,105,110,100,123,88,32,89,32,90,125,32,105,110,112,117,116,32,73,110,123,112,58,73,110,116,33,32,113,58,91,73,110,116,93,32,114,58,73,110,32,115,58,75,105,110,100,61,88,125,32,115,99,97,108,97,114,32,65,110,121,32,116,121,112,101,32,77,117,116,97,116,105,111,110,123,115,101,116,40,118,58,73,110,116,33,41,58,65,32,97,100,100,40,118,58,91,73,110,116,33,93,41,58,73,110,116,32,98,117,109,112,58,66,125]), s4, s9] H : R))
noncomputable def r13_0 (k : KT R) : KT R := fun fr H => opn 5 fr (fun s0 s2 s3 s4 s9 => 
(qNew (.cells z24) .ptr H fun v2 H =>
k [s0, v2, s3, s4, s9] H : R))
noncomputable def c13 (C : CallF) (l0 : List AV) (H : AH) (k : AV → AH → R) : R := opn 1 l0 (fun x0 => (qFn (fun kr => (r13_0 (r13_1 (r13_2 C (qCd (sel 4) (fun k1 => (r13_3 k1)) (fun k1 => k1) (r13_4 C (r13_5 kr)))))))
(fun fr H => qPtr (sel 1 fr) (qLdA 3 (sel 1 fr) H fun w0 => k w0 H)) [x0, undef, undef, undef, undef] H : R))
/- refectory/refectorylaw00.Place -/
noncomputable def r14_4 (k : KT R) : KT R := fun fr H => opn 5 fr (fun s0 s1 s4 s5 s10 => 
(k [s0, s1, s5, s5, s10] H : R))
noncomputable def r14_3 (k : KT R) : KT R := fun fr H => opn 5 fr (fun s0 s1 s4 s5 s10 => 
(qAdd X 3 s5 s1 fun v13 =>
k [s0, s1, s4, v13, s10] H : R))
noncomputable def r14_2 (k : KT R) : KT R := fun fr H => opn 5 fr (fun s0 s1 s4 s5 s10 => 
(qLss X 3 s5 (.int .i64 0) fun v10 =>
k [s0, s1, s4, s5, v10] H : R))
noncomputable def r14_1 (k : KT R) : KT R := fun fr H => opn 5 fr (fun s0 s1 s4 s5 s10 => 
(qRem X 3 s0 s1 fun v8 =>
k [s0, s1, s4, v8, s10] H : R))
noncomputable def r14_0 (k : KT R) : KT R := fun fr H => opn 5 fr (fun s0 s1 s4 s5 s10 => 
(k [s0, s1, (.int .i64 0), s5, s10] H : R))
noncomputable def c14 (C : CallF) (l0 : List AV) (H : AH) (k : AV → AH → R) : R := opn 2 l0 (fun x0 x1 => (qFn (fun kr => (r14_0 (r14_1 (r14_2 (qCd (sel 4) (fun k1 => (r14_3 k1)) (fun k1 => k1) (r14_4 kr))))))
(fun fr H => k (sel 2 fr) H) [x0, x1, undef, undef, undef] H : R))
/- refectory/collect.Fields -/
noncomputable def r15_3 (k : KT R) : KT R := fun fr H => opn 10 fr (fun s0 s1 s2 s3 s4 s5 s6 s9 s10 s11 => 
(qNc s11 fun v24 =>
qFa 10 v24 fun v25 =>
qLd v25 H fun v26 =>
k [s0, s1, s2, s3, s4, s5, s6, s9, v26, s11] H : R))
noncomputable def r15_2 (C : CallF) (k : KT R) : KT R := fun fr H => opn 10 fr (fun s0 s1 s2 s3 s4 s5 s6 s9 s10 s11 => 
(qRes (C 30 [s11, s3] H) fun v22 H =>
k [s0, s1, s2, s3, s4, s5, s6, s9, s10, s11] H : R))
noncomputable def r15_1 (k : KT R) : KT R := fun fr H => opn 10 fr (fun s0 s1 s2 s3 s4 s5 s6 s9 s10 s11 => 
(qLdA 3 s5 H fun v12 =>
qLdA 2 s6 H fun v13 =>
qLdA 4 s9 H fun v15 =>
qNew (.map []) .map H fun v16 H =>
qNew (.map []) .map H fun v17 H =>
qBld z86 [(0, 3, v12), (3, 2, v13), (5, 1, s2), (6, 4, v15), (11, 1, v16), (12, 1, v17)] fun v18 =>
qBox v18 H fun v19 H =>
k [s0, s1, s2, s3, s4, s5, s6, s9, s10, v19] H : R))
noncomputable def r15_0 (k : KT R) : KT R := fun fr H => opn 10 fr (fun s0 s1 s2 s3 s4 s5 s6 s9 s10 s11 => 
(qBox s0 H fun v5 H =>
qBox s1 H fun v6 H =>
qBox s4 H fun v9 H =>
k [s0, s1, s2, s3, s4, v5, v6, v9, (.sl [] .nil), s11] H : R))
noncomputable def c15 (C : CallF) (l0 : List AV) (H : AH) (k : AV → AH → R) : R := opn 5 l0 (fun x0 x1 x2 x3 x4 => (qFn (fun kr => (r15_0 (r15_1 (r15_2 C (r15_3 kr)))))
(fun fr H => k (sel 8 fr) H) [x0, x1, x2, x3, x4, undef, undef, undef, undef, undef] H : R))
/- refectory/refectorylaw17.awake -/
noncomputable def r16_6 (C : CallF) (k : KT R) : KT R := fun fr H => opn 5 fr (fun s0 s1 s2 s5 s15 => 
(qLenL s5 fun v26 =>
qEql X 3 v26 (.int .i64 2) fun v27 =>
qG v27 true (fun k => k s5 H) H fun v29 H =>
qG v27 true (fun k => qIa 2 v29 (.int .i64 1) fun v => k v H) H fun v30 H =>
qG v27 true (fun k => qFa 0 v30 fun v => k v H) H fun v31 H =>
qG v27 true (fun k => qLd v31 H fun v => k v H) H fun v32 H =>
qG v27 true (fun k => qEql X 9 v32 (.str [99]) fun v => k v H) H fun v33 H =>
qPick v27 v33 (.bool false) fun v34 =>
qG v34 true (fun k => k s5 H) H fun v36 H =>
qG v34 true (fun k => qIa 2 v36 (.int .i64 1) fun v => k v H) H fun v37 H =>
qG v34 true (fun k => qFa 1 v37 fun v => k v H) H fun v38 H =>
qG v34 true (fun k => qLd v38 H fun v => k v H) H fun v39 H =>
qG v34 true (fun k => qLenL v39 fun v => k v H) H fun v40 H =>
qG v34 true (fun k => qEql X 3 v40 (.int .i64 2) fun v => k v H) H fun v41 H =>
qPick v34 v41 (.bool false) fun v42 =>
qG v42 true (fun k => k s5 H) H fun v44 H =>
qG v42 true (fun k => qIa 2 v44 (.int .i64 1) fun v => k v H) H fun v45 H =>
qG v42 true (fun k => qLdA 2 v45 H fun v => k v H) H fun v46 H =>
qG v42 true (fun k => qRes (C 18 [v46] H) k) H fun v47 H =>
qG v42 true (fun k => qLenL v47 fun v => k v H) H fun v48 H =>
qG v42 true (fun k => qEql X 3 v48 (.int .i64 2) fun v => k v H) H fun v49 H =>
qPick v42 v49 (.bool false) fun v50 =>
k [v50, s1, s2, s5, s15] H : R))
noncomputable def r16_5 (C : CallF) (k : KT R) : KT R := fun fr H => opn 5 fr (fun s0 s1 s2 s5 s15 => 
(qLdA 3 s1 H fun v16 =>
qLdA 2 s2 H fun v17 =>
qFa 0 s2 fun v18 =>
qLd v18 H fun v19 =>
qIa 5 v19 (.int .i64 0) fun v20 =>
qFa 4 v20 fun v21 =>
qLd v21 H fun v22 =>
qBld z30 [(0, 1, (.int .i64 8))] fun v23 =>
qRes (C 15 [v16, v17, (.str [81,117,101,114,121]), v22, v23] H) fun v24 H =>
k [s0, s1, s2, v24, s15] H : R))
noncomputable def r16_4 (k : KT R) : KT R := fun fr H => opn 5 fr (fun s0 s1 s2 s5 s15 => 
(k [(.bool false), s1, s2, s5, s15] H : R))
noncomputable def r16_3 (k : KT R) : KT R := fun fr H => opn 5 fr (fun s0 s1 s2 s5 s15 => 
(qFa 0 s2 fun v12 =>
qLd v12 H fun v13 =>
qLenL v13 fun v14 =>
qNeq X 3 v14 (.int .i64 1) fun v15 =>
k [s0, s1, s2, s5, v15] H : R))
noncomputable def r16_2 (C : CallF) (k : KT R) : KT R := fun fr H => opn 5 fr (fun s0 s1 s2 s5 s15 => 
(qRes (C 19 [(.str [123,97,32,99,123,105,100,125,32,97,32,99,123,110,97,109,101,125,125])] H) fun v8 H =>
qExt v8 0 fun v9 =>
qExt v8 1 fun v10 =>
qExt v8 2 fun v11 =>
qNew (.cells z46) .ptr H fun v2 H =>
qSt 2 v2 v9 H fun _ H =>
k [s0, s1, v2, s5, s15] H : R))
noncomputable def r16_1 (C : CallF) (k : KT R) : KT R := fun fr H => opn 5 fr (fun s0 s1 s2 s5 s15 => 
(qRes (C 13 [(.int .i64 1)] H) fun v6 H =>
qNew (.cells z24) .ptr H fun v1 H =>
qSt 3 v1 v6 H fun _ H =>
k [s0, v1, s2, s5, s15] H : R))
noncomputable def r16_0 (k : KT R) : KT R := fun fr H => opn 5 fr (fun s0 s1 s2 s5 s15 => 
(k [(.bool false), s1, s2, s5, s15] H : R))
noncomputable def c16 (C : CallF) (l0 : List AV) (H : AH) (k : AV → AH → R) : R := opn 0 l0 ((qFn (fun kr => (r16_0 (r16_1 C (r16_2 C (r16_3 (qCd (sel 4) (fun _ => (r16_4 kr)) (fun k1 => k1) (r16_5 C (r16_6 C kr))))))))
(fun fr H => k (sel 0 fr) H) [undef, undef, undef, undef, undef] H : R))
/- refectory/refectorylaw00.Digits -/
noncomputable def r17_1 (C : CallF) (k : KT R) : KT R := fun fr H => opn 2 fr (fun s0 s2 => 
(qRes (C 31 [s0] H) fun v4 H =>
k [s0, v4] H : R))
noncomputable def r17_0 (k : KT R) : KT R := fun fr H => opn 2 fr (fun s0 s2 => 
(k [s0, (.str [])] H : R))
noncomputable def c17 (C : CallF) (l0 : List AV) (H : AH) (k : AV → AH → R) : R := opn 1 l0 (fun x0 => (qFn (fun kr => (r17_0 (r17_1 C kr)))
(fun fr H => k (sel 1 fr) H) [x0, undef] H : R))
/- refectory/collect.Below -/
noncomputable def r18_7 (k : KT R) : KT R := fun fr H => opn 9 fr (fun s0 s1 s2 s3 s5 s7 s8 s9 s10 => 
(k [s0, s1, s3, s3, s5, s7, s8, s9, s10] H : R))
noncomputable def r18_6 (k : KT R) : KT R := fun fr H => opn 9 fr (fun s0 s1 s2 s3 s5 s7 s8 s9 s10 => 
(qAdd X 3 s9 (.int .i64 1) fun v17 =>
k [s0, s1, s2, s3, s5, s7, s8, v17, s10] H : R))
noncomputable def r18_5 (k : KT R) : KT R := fun fr H => opn 9 fr (fun s0 s1 s2 s3 s5 s7 s8 s9 s10 => 
(qFa 6 s5 fun v14 =>
qLd v14 H fun v15 =>
qApp 7 128 s3 v15 false H fun v16 H =>
k [s0, s1, s2, v16, s5, s7, s8, s9, s10] H : R))
noncomputable def r18_4 (k : KT R) : KT R := fun fr H => opn 9 fr (fun s0 s1 s2 s3 s5 s7 s8 s9 s10 => 
(qIa 7 s7 s9 fun v11 =>
qLdA 7 v11 H fun v12 =>
qNew (.cells z36) .ptr H fun v5 H =>
qSt 7 v5 v12 H fun _ H =>
k [s0, s1, s2, s3, v5, s7, s8, s9, s10] H : R))
noncomputable def r18_3 (k : KT R) : KT R := fun fr H => opn 9 fr (fun s0 s1 s2 s3 s5 s7 s8 s9 s10 => 
(qLss X 3 s9 s8 fun v10 =>
k [s0, s1, s2, s3, s5, s7, s8, s9, v10] H : R))
noncomputable def l18_4 (k1 : KT R) : KT R → KT R := fun k2 => (r18_3 (qCd (sel 8) (fun k4 => k4) (fun _ => k1) (qBl (fun k3 => (r18_4 (r18_5 k3))) (r18_6 k2))))
noncomputable def r18_2 (k : KT R) : KT R := fun fr H => opn 9 fr (fun s0 s1 s2 s3 s5 s7 s8 s9 s10 => 
(qFa 1 s1 fun v6 =>
qLd v6 H fun v7 =>
qLenL v7 fun v8 =>
k [s0, s1, s2, s3, s5, v7, v8, (.int .i64 0), s10] H : R))
noncomputable def r18_1 (k : KT R) : KT R := fun fr H => opn 9 fr (fun s0 s1 s2 s3 s5 s7 s8 s9 s10 => 
(k [s0, s1, s2, (.sl [] .nil), s5, s7, s8, s9, s10] H : R))
noncomputable def r18_0 (k : KT R) : KT R := fun fr H => opn 9 fr (fun s0 s1 s2 s3 s5 s7 s8 s9 s10 => 
(qBox s0 H fun v1 H =>
k [s0, v1, (.sl [] .nil), s3, s5, s7, s8, s9, s10] H : R))
noncomputable def c18 (C : CallF) (l0 : List AV) (H : AH) (k : AV → AH → R) : R := opn 1 l0 (fun x0 => (qFn (fun kr => (r18_0 (r18_1 (r18_2 (qBl (fun k1 => (qLoop (l18_4 k1))) (r18_7 kr))))))
(fun fr H => k (sel 2 fr) H) [x0, undef, undef, undef, undef, undef, undef, undef, undef] H : R))
/- refectory/refectoryref06.Parse -/
noncomputable def r19_19 (k : KT R) : KT R := fun fr H => opn 16 fr (fun s0 s2 s3 s4 s5 s6 s7 s8 s9 s10 s13 s22 s28 s50 s57 s66 => 
(qLdA 2 s9 H fun v81 =>
qSt 2 s2 v81 H fun _ H =>
k [s0, s2, (.int .i64 0), (.int .i64 0), s5, s6, s7, s8, s9, s10, s13, s22, s28, s50, s57, s66] H : R))
noncomputable def r19_18 (k : KT R) : KT R := fun fr H => opn 16 fr (fun s0 s2 s3 s4 s5 s6 s7 s8 s9 s10 s13 s22 s28 s50 s57 s66 => 
(qBld z46 [] fun v75 =>
qNc s8 fun v78 =>
qFa 2 v78 fun v79 =>
qLd v79 H fun v80 =>
qSt 2 s2 v75 H fun _ H =>
qLd v79 H fun w => qSame v80 w (k [s0, s2, s6, v80, s5, s6, s7, s8, s9, s10, s13, s22, s28, s50, s57, s66] H) : R))
noncomputable def r19_17 (k : KT R) : KT R := fun fr H => opn 16 fr (fun s0 s2 s3 s4 s5 s6 s7 s8 s9 s10 s13 s22 s28 s50 s57 s66 => 
(qNc s8 fun v69 =>
qFa 3 v69 fun v70 =>
qLd v70 H fun v71 =>
qIa 3 s5 v71 fun v72 =>
qFa 2 v72 fun v73 =>
qLd v73 H fun v74 =>
k [s0, s2, s3, s4, s5, v74, s7, s8, s9, s10, s13, s22, s28, s50, s57, s66] H : R))
noncomputable def r19_16 (k : KT R) : KT R := fun fr H => opn 16 fr (fun s0 s2 s3 s4 s5 s6 s7 s8 s9 s10 s13 s22 s28 s50 s57 s66 => 
(qNc s8 fun v61 =>
qFa 3 v61 fun v62 =>
qLd v62 H fun v63 =>
qLenL s5 fun v65 =>
qLss X 3 v63 v65 fun v66 =>
k [s0, s2, s3, s4, s5, s6, s7, s8, s9, s10, s13, s22, s28, s50, s57, v66] H : R))
noncomputable def r19_15 (k : KT R) : KT R := fun fr H => opn 16 fr (fun s0 s2 s3 s4 s5 s6 s7 s8 s9 s10 s13 s22 s28 s50 s57 s66 => 
(qLenS s0 fun v59 =>
k [s0, s2, s3, s4, s5, v59, s7, s8, s9, s10, s13, s22, s28, s50, s57, s66] H : R))
noncomputable def r19_14 (k : KT R) : KT R := fun fr H => opn 16 fr (fun s0 s2 s3 s4 s5 s6 s7 s8 s9 s10 s13 s22 s28 s50 s57 s66 => 
(qNc s8 fun v54 =>
qFa 2 v54 fun v55 =>
qLd v55 H fun v56 =>
qNeq X 57 v56 (.int .i64 0) fun v57 =>
k [s0, s2, s3, s4, s5, s6, s7, s8, s9, s10, s13, s22, s28, s50, v57, s66] H : R))
noncomputable def r19_12 (k : KT R) : KT R := fun fr H => opn 16 fr (fun s0 s2 s3 s4 s5 s6 s7 s8 s9 s10 s13 s22 s28 s50 s57 s66 => 
(k [s0, s2, s3, s4, s5, s6, s7, s8, s9, (.bool false), s13, s22, s28, s50, s57, s66] H : R))
noncomputable def r19_13 (C : CallF) (k : KT R) : KT R := fun fr H => opn 16 fr (fun s0 s2 s3 s4 s5 s6 s7 s8 s9 s10 s13 s22 s28 s50 s57 s66 => 
(qRes (C 33 [s8, s9] H) fun v52 H =>
k [s0, s2, s3, s4, s5, s6, s7, s8, s9, s10, s13, s22, s28, s50, s57, s66] H : R))
noncomputable def r19_11 (k : KT R) : KT R := fun fr H => opn 16 fr (fun s0 s2 s3 s4 s5 s6 s7 s8 s9 s10 s13 s22 s28 s50 s57 s66 => 
(qNc s8 fun v35 =>
qFa 2 v35 fun v36 =>
qLd v36 H fun v37 =>
qEql X 57 v37 (.int .i64 0) fun v38 =>
qG v38 true (fun k => k s10 H) H fun v40 H =>
qG v38 true (fun k => k v40 H) H fun v41 H =>
qG v41 false (fun k => k s8 H) H fun v42 H =>
qG v41 false (fun k => qNc v42 fun v => k v H) H fun v43 H =>
qG v41 false (fun k => qFa 1 v43 fun v => k v H) H fun v44 H =>
qG v41 false (fun k => qLd v44 H fun v => k v H) H fun v45 H =>
qG v41 false (fun k => k s5 H) H fun v46 H =>
qG v41 false (fun k => qLenL v46 fun v => k v H) H fun v47 H =>
qG v41 false (fun k => qLss X 3 v45 v47 fun v => k v H) H fun v48 H =>
qG v38 true (fun k => qPick v41 (.bool true) v48 fun v => k v H) H fun v49 H =>
qPick v38 v49 (.bool false) fun v50 =>
k [s0, s2, s3, s4, s5, s6, s7, s8, s9, s10, s13, s22, s28, v50, s57, s66] H : R))
noncomputable def l19_6 (C : CallF) (k3 : KT R) : KT R → KT R := fun k4 => (r19_11 (qCd (sel 13) (fun k6 => k6) (fun _ => k3) (qBl (fun k5 => (r19_13 C k5)) (r19_12 k4))))
noncomputable def r19_10 (k : KT R) : KT R := fun fr H => opn 16 fr (fun s0 s2 s3 s4 s5 s6 s7 s8 s9 s10 s13 s22 s28 s50 s57 s66 => 
(k [s0, s2, s3, s4, s5, s6, s7, s8, s9, (.bool true), s13, s22, s28, s50, s57, s66] H : R))
noncomputable def r19_9 (k : KT R) : KT R := fun fr H => opn 16 fr (fun s0 s2 s3 s4 s5 s6 s7 s8 s9 s10 s13 s22 s28 s50 s57 s66 => 
(qBld z46 [] fun v33 =>
qNew (.cells z46) .ptr H fun v9 H =>
qSt 2 v9 v33 H fun _ H =>
k [s0, s2, s3, s4, s5, s6, s7, s8, v9, s10, s13, s22, s28, s50, s57, s66] H : R))
noncomputable def r19_8 (k : KT R) : KT R := fun fr H => opn 16 fr (fun s0 s2 s3 s4 s5 s6 s7 s8 s9 s10 s13 s22 s28 s50 s57 s66 => 
(qBld z93 [(0, 1, s5), (4, 1, (.bool true))] fun v31 =>
qBox v31 H fun v32 H =>
k [s0, s2, s3, s4, s5, s6, s7, v32, s9, s10, s13, s22, s28, s50, s57, s66] H : R))
noncomputable def r19_7 (k : KT R) : KT R := fun fr H => opn 16 fr (fun s0 s2 s3 s4 s5 s6 s7 s8 s9 s10 s13 s22 s28 s50 s57 s66 => 
(qBld z46 [] fun v29 =>
qSt 2 s2 v29 H fun _ H =>
k [s0, s2, (.int .i64 0), (.int .i64 3), s5, s6, s7, s8, s9, s10, s13, s22, s28, s50, s57, s66] H : R))
noncomputable def r19_6 (k : KT R) : KT R := fun fr H => opn 16 fr (fun s0 s2 s3 s4 s5 s6 s7 s8 s9 s10 s13 s22 s28 s50 s57 s66 => 
(qLenL s5 fun v27 =>
qGtr X 3 v27 (.int .i64 600) fun v28 =>
k [s0, s2, s3, s4, s5, s6, s7, s8, s9, s10, s13, s22, v28, s50, s57, s66] H : R))
noncomputable def r19_5 (k : KT R) : KT R := fun fr H => opn 16 fr (fun s0 s2 s3 s4 s5 s6 s7 s8 s9 s10 s13 s22 s28 s50 s57 s66 => 
(qBld z46 [] fun v23 =>
qSt 2 s2 v23 H fun _ H =>
k [s0, s2, s6, s7, s5, s6, s7, s8, s9, s10, s13, s22, s28, s50, s57, s66] H : R))
noncomputable def r19_4 (k : KT R) : KT R := fun fr H => opn 16 fr (fun s0 s2 s3 s4 s5 s6 s7 s8 s9 s10 s13 s22 s28 s50 s57 s66 => 
(qNeq X 57 s7 (.int .i64 0) fun v22 =>
k [s0, s2, s3, s4, s5, s6, s7, s8, s9, s10, s13, v22, s28, s50, s57, s66] H : R))
noncomputable def r19_3 (C : CallF) (k : KT R) : KT R := fun fr H => opn 16 fr (fun s0 s2 s3 s4 s5 s6 s7 s8 s9 s10 s13 s22 s28 s50 s57 s66 => 
(qRes (C 32 [s0] H) fun v17 H =>
qExt v17 0 fun v18 =>
qExt v17 1 fun v19 =>
qExt v17 2 fun v20 =>
k [s0, s2, s3, s4, v18, v19, v20, s8, s9, s10, s13, s22, s28, s50, s57, s66] H : R))
noncomputable def r19_2 (k : KT R) : KT R := fun fr H => opn 16 fr (fun s0 s2 s3 s4 s5 s6 s7 s8 s9 s10 s13 s22 s28 s50 s57 s66 => 
(qBld z46 [] fun v14 =>
qSt 2 s2 v14 H fun _ H =>
k [s0, s2, (.int .i64 0), (.int .i64 3), s5, s6, s7, s8, s9, s10, s13, s22, s28, s50, s57, s66] H : R))
noncomputable def r19_1 (k : KT R) : KT R := fun fr H => opn 16 fr (fun s0 s2 s3 s4 s5 s6 s7 s8 s9 s10 s13 s22 s28 s50 s57 s66 => 
(qLenS s0 fun v12 =>
qGtr X 3 v12 (.int .i64 4000) fun v13 =>
k [s0, s2, s3, s4, s5, s6, s7, s8, s9, s10, v13, s22, s28, s50, s57, s66] H : R))
noncomputable def r19_0 (k : KT R) : KT R := fun fr H => opn 16 fr (fun s0 s2 s3 s4 s5 s6 s7 s8 s9 s10 s13 s22 s28 s50 s57 s66 => 
(qNew (.cells z46) .ptr H fun v2 H =>
k [s0, v2, (.int .i64 0), (.int .i64 0), s5, s6, s7, s8, s9, s10, s13, s22, s28, s50, s57, s66] H : R))
noncomputable def c19 (C : CallF) (l0 : List AV) (H : AH) (k : AV → AH → R) : R := opn 1 l0 (fun x0 => (qFn (fun kr => (r19_0 (r19_1 (qCd (sel 10) (fun _ => (r19_2 kr)) (fun k9 => k9) (r19_3 C (r19_4 (qCd (sel 11) (fun _ => (r19_5 kr)) (fun k8 => k8) (r19_6 (qCd (sel 12) (fun _ => (r19_7 kr)) (fun k7 => k7) (r19_8 (r19_9 (r19_10 (qBl (fun k3 => (qLoop (l19_6 C k3))) (r19_14 (qCd (sel 14) (fun _ => (r19_15 (r19_16 (qCd (sel 15) (fun k2 => (r19_17 k2)) (fun k2 => k2) (r19_18 kr))))) (fun k1 => k1) (r19_19 kr))))))))))))))))
(fun fr H => qPtr (sel 1 fr) (qLdA 2 (sel 1 fr) H fun w0 => k (.tup [w0, (sel 2 fr), (sel 3 fr)]) H)) [x0, undef, undef, undef, undef, undef, undef, undef, undef, undef, undef, undef, undef, undef, undef, undef] H : R))
/- refectory/frags.Check -/
noncomputable def r20_7 (k : KT R) : KT R := fun fr H => opn 8 fr (fun s0 s1 s2 s3 s4 s5 s8 s12 => 
(k [s0, s1, s2, s3, (.int .i64 0), s5, s8, s12] H : R))
noncomputable def r20_2 (k : KT R) : KT R := fun fr H => opn 8 fr (fun s0 s1 s2 s3 s4 s5 s8 s12 => 
(k [s0, s1, s2, s3, (.int .i64 5), s5, s8, s12] H : R))
noncomputable def r20_4 (k : KT R) : KT R := fun fr H => opn 8 fr (fun s0 s1 s2 s3 s4 s5 s8 s12 => 
(k [s0, s1, s2, s3, (.int .i64 7), s5, s8, s12] H : R))
noncomputable def r20_6 (k : KT R) : KT R := fun fr H => opn 8 fr (fun s0 s1 s2 s3 s4 s5 s8 s12 => 
(k [s0, s1, s2, s3, (.int .i64 12), s5, s8, s12] H : R))
noncomputable def r20_5 (C : CallF) (k : KT R) : KT R := fun fr H => opn 8 fr (fun s0 s1 s2 s3 s4 s5 s8 s12 => 
(qLdA 3 s2 H fun v13 =>
qLdA 2 s3 H fun v14 =>
qRes (C 36 [v13, v14] H) fun v15 H =>
k [s0, s1, s2, s3, s4, s5, s8, v15] H : R))
noncomputable def r20_3 (C : CallF) (k : KT R) : KT R := fun fr H => opn 8 fr (fun s0 s1 s2 s3 s4 s5 s8 s12 => 
(qLdA 3 s2 H fun v9 =>
qLdA 2 s3 H fun v10 =>
qRes (C 35 [v9, v10] H) fun v11 H =>
k [s0, s1, s2, s3, s4, s5, v11, s12] H : R))
noncomputable def r20_1 (C : CallF) (k : KT R) : KT R := fun fr H => opn 8 fr (fun s0 s1 s2 s3 s4 s5 s8 s12 => 
(qLdA 2 s3 H fun v6 =>
qRes (C 34 [v6] H) fun v7 H =>
k [s0, s1, s2, s3, s4, v7, s8, s12] H : R))
noncomputable def r20_0 (k : KT R) : KT R := fun fr H => opn 8 fr (fun s0 s1 s2 s3 s4 s5 s8 s12 => 
(qBox s0 H fun v2 H =>
qBox s1 H fun v3 H =>
k [s0, s1, v2, v3, (.int .i64 0), s5, s8, s12] H : R))
noncomputable def c20 (C : CallF) (l0 : List AV) (H : AH) (k : AV → AH → R) : R := opn 2 l0 (fun x0 x1 => (qFn (fun kr => (r20_0 (qBl (fun k1 => (r20_1 C (qCd (sel 5) (fun _ => (r20_2 kr)) (fun k2 => (r20_3 C (qCd (sel 6) (fun _ => (r20_4 kr)) (fun k3 => (r20_5 C (qCd (sel 7) (fun _ => (r20_6 kr)) (fun k4 => k4) k3))) k2))) k1))) (r20_7 kr))))
(fun fr H => k (sel 4 fr) H) [x0, x1, undef, undef, undef, undef, undef, undef] H : R))
/- refectory/refectorylaw12.awake -/
noncomputable def r21_5 (C : CallF) (k : KT R) : KT R := fun fr H => opn 6 fr (fun s0 s1 s2 s5 s8 s9 => 
(qLdA 3 s1 H fun v26 =>
qLdA 2 s2 H fun v27 =>
qRes (C 20 [v26, v27] H) fun v28 H =>
qEql X 57 v28 (.int .i64 12) fun v29 =>
qG v29 true (fun k => qLdA 3 s1 H fun v => k v H) H fun v31 H =>
qG v29 true (fun k => qLdA 2 s5 H fun v => k v H) H fun v32 H =>
qG v29 true (fun k => qRes (C 20 [v31, v32] H) k) H fun v33 H =>
qG v29 true (fun k => qEql X 57 v33 (.int .i64 0) fun v => k v H) H fun v34 H =>
qPick v29 v34 (.bool false) fun v35 =>
qG v35 true (fun k => k s9 H) H fun v37 H =>
qPick v35 v37 (.bool false) fun v38 =>
qG v38 true (fun k => qFa 1 s8 fun v => k v H) H fun v40 H =>
qG v38 true (fun k => qLd v40 H fun v => k v H) H fun v41 H =>
qG v38 true (fun k => qEql X 9 v41 (.str [81,117,101,114,121]) fun v => k v H) H fun v42 H =>
qPick v38 v42 (.bool false) fun v43 =>
qG v43 true (fun k => qLdA 2 s5 H fun v => k v H) H fun v45 H =>
qG v43 true (fun k => qFa 0 s5 fun v => k v H) H fun v46 H =>
qG v43 true (fun k => qLd v46 H fun v => k v H) H fun v47 H =>
qG v43 true (fun k => qIa 5 v47 (.int .i64 0) fun v => k v H) H fun v48 H =>
qG v43 true (fun k => qFa 4 v48 fun v => k v H) H fun v49 H =>
qG v43 true (fun k => qLd v49 H fun v => k v H) H fun v50 H =>
qG v43 true (fun k => qRes (C 22 [v45, v50] H) k) H fun v51 H =>
qG v43 true (fun k => qLenL v51 fun v => k v H) H fun v52 H =>
qG v43 true (fun k => qEql X 3 v52 (.int .i64 1) fun v => k v H) H fun v53 H =>
qPick v43 v53 (.bool false) fun v54 =>
k [v54, s1, s2, s5, s8, s9] H : R))
noncomputable def r21_4 (C : CallF) (k : KT R) : KT R := fun fr H => opn 6 fr (fun s0 s1 s2 s5 s8 s9 => 
(qLdA 2 s5 H fun v22 =>
qRes (C 37 [v22, (.str [70])] H) fun v23 H =>
qExt v23 0 fun v24 =>
qExt v23 1 fun v25 =>
qNew (.cells z67) .ptr H fun v8 H =>
qSt 4 v8 v24 H fun _ H =>
k [s0, s1, s2, s5, v8, v25] H : R))
noncomputable def r21_3 (C : CallF) (k : KT R) : KT R := fun fr H => opn 6 fr (fun s0 s1 s2 s5 s8 s9 => 
(qRes (C 19 [(.str [123,46,46,46,70,125,32,102,114,97,103,109,101,110,116,32,70,32,111,110,32,81,117,101,114,121,123,97,125])] H) fun v17 H =>
qExt v17 0 fun v18 =>
qExt v17 1 fun v19 =>
qExt v17 2 fun v20 =>
qNew (.cells z46) .ptr H fun v5 H =>
qSt 2 v5 v18 H fun _ H =>
k [s0, s1, s2, v5, s8, s9] H : R))
noncomputable def r21_2 (C : CallF) (k : KT R) : KT R := fun fr H => opn 6 fr (fun s0 s1 s2 s5 s8 s9 => 
(qRes (C 19 [(.str [123,46,46,46,70,125,32,102,114,97,103,109,101,110,116,32,70,32,111,110,32,81,117,101,114,121,123,46,46,46,70,125])] H) fun v12 H =>
qExt v12 0 fun v13 =>
qExt v12 1 fun v14 =>
qExt v12 2 fun v15 =>
qNew (.cells z46) .ptr H fun v2 H =>
qSt 2 v2 v13 H fun _ H =>
k [s0, s1, v2, s5, s8, s9] H : R))
noncomputable def r21_1 (C : CallF) (k : KT R) : KT R := fun fr H => opn 6 fr (fun s0 s1 s2 s5 s8 s9 => 
(qRes (C 13 [(.int .i64 1)] H) fun v10 H =>
qNew (.cells z24) .ptr H fun v1 H =>
qSt 3 v1 v10 H fun _ H =>
k [s0, v1, s2, s5, s8, s9] H : R))
noncomputable def r21_0 (k : KT R) : KT R := fun fr H => opn 6 fr (fun s0 s1 s2 s5 s8 s9 => 
(k [(.bool false), s1, s2, s5, s8, s9] H : R))
noncomputable def c21 (C : CallF) (l0 : List AV) (H : AH) (k : AV → AH → R) : R := opn 0 l0 ((qFn (fun kr => (r21_0 (r21_1 C (r21_2 C (r21_3 C (r21_4 C (r21_5 C kr)))))))
(fun fr H => k (sel 0 fr) H) [undef, undef, undef, undef, undef, undef] H : R))
/- refectory/frags.Reach -/
noncomputable def r22_6 (k : KT R) : KT R := fun fr H => opn 7 fr (fun s0 s1 s2 s4 s5 s6 s7 => 
(qLd s5 H fun v13 =>
k [s0, s1, s2, v13, s5, s6, s7] H : R))
noncomputable def r22_5 (C : CallF) (k : KT R) : KT R := fun fr H => opn 7 fr (fun s0 s1 s2 s4 s5 s6 s7 => 
(qLd s7 H fun v10 =>
qCallV C v10 [s1] H fun v12 H =>
k [s0, s1, s2, s4, s5, s6, s7] H : R))
noncomputable def r22_4 (k : KT R) : KT R := fun fr H => opn 7 fr (fun s0 s1 s2 s4 s5 s6 s7 => 
(qSt 1 s7 (.fn (.func 38) [] [s7, s6, s5, s2]) H fun _ H =>
k [s0, s1, s2, s4, s5, s6, s7] H : R))
noncomputable def r22_3 (k : KT R) : KT R := fun fr H => opn 7 fr (fun s0 s1 s2 s4 s5 s6 s7 => 
(qNew (.cells z87) .ptr H fun v7 H =>
k [s0, s1, s2, s4, s5, s6, v7] H : R))
noncomputable def r22_2 (k : KT R) : KT R := fun fr H => opn 7 fr (fun s0 s1 s2 s4 s5 s6 s7 => 
(qNew (.map []) .map H fun v8 H =>
qNew (.cells z84) .ptr H fun v6 H =>
qSt 1 v6 v8 H fun _ H =>
k [s0, s1, s2, s4, s5, v6, s7] H : R))
noncomputable def r22_1 (k : KT R) : KT R := fun fr H => opn 7 fr (fun s0 s1 s2 s4 s5 s6 s7 => 
(qNew (.cells z27) .ptr H fun v5 H =>
k [s0, s1, s2, s4, v5, s6, s7] H : R))
noncomputable def r22_0 (k : KT R) : KT R := fun fr H => opn 7 fr (fun s0 s1 s2 s4 s5 s6 s7 => 
(qBox s0 H fun v2 H =>
k [s0, s1, v2, (.sl [] .nil), s5, s6, s7] H : R))
noncomputable def c22 (C : CallF) (l0 : List AV) (H : AH) (k : AV → AH → R) : R := opn 2 l0 (fun x0 x1 => (qFn (fun kr => (r22_0 (r22_1 (r22_2 (r22_3 (r22_4 (r22_5 C (r22_6 kr))))))))
(fun fr H => k (sel 3 fr) H) [x0, x1, undef, undef, undef, undef, undef] H : R))
/- refectory/refectorylaw14.awake -/
noncomputable def r23_4 (C : CallF) (k : KT R) : KT R := fun fr H => opn 4 fr (fun s0 s1 s2 s5 => 
(qLdA 3 s1 H fun v19 =>
qLdA 2 s2 H fun v20 =>
qRes (C 25 [v19, v20] H) fun v21 H =>
qNot v21 fun v22 =>
qG v22 true (fun k => qLdA 3 s1 H fun v => k v H) H fun v24 H =>
qG v22 true (fun k => qLdA 2 s5 H fun v => k v H) H fun v25 H =>
qG v22 true (fun k => qRes (C 25 [v24, v25] H) k) H fun v26 H =>
qPick v22 v26 (.bool false) fun v27 =>
k [v27, s1, s2, s5] H : R))
noncomputable def r23_3 (C : CallF) (k : KT R) : KT R := fun fr H => opn 4 fr (fun s0 s1 s2 s5 => 
(qRes (C 19 [(.str [123,120,58,97,32,120,58,97,125])] H) fun v15 H =>
qExt v15 0 fun v16 =>
qExt v15 1 fun v17 =>
qExt v15 2 fun v18 =>
qNew (.cells z46) .ptr H fun v5 H =>
qSt 2 v5 v16 H fun _ H =>
k [s0, s1, s2, v5] H : R))
noncomputable def r23_2 (C : CallF) (k : KT R) : KT R := fun fr H => opn 4 fr (fun s0 s1 s2 s5 => 
(qRes (C 19 [(.str [123,120,58,97,32,120,58,101,125])] H) fun v10 H =>
qExt v10 0 fun v11 =>
qExt v10 1 fun v12 =>
qExt v10 2 fun v13 =>
qNew (.cells z46) .ptr H fun v2 H =>
qSt 2 v2 v11 H fun _ H =>
k [s0, s1, v2, s5] H : R))
noncomputable def r23_1 (C : CallF) (k : KT R) : KT R := fun fr H => opn 4 fr (fun s0 s1 s2 s5 => 
(qRes (C 13 [(.int .i64 1)] H) fun v8 H =>
qNew (.cells z24) .ptr H fun v1 H =>
qSt 3 v1 v8 H fun _ H =>
k [s0, v1, s2, s5] H : R))
noncomputable def r23_0 (k : KT R) : KT R := fun fr H => opn 4 fr (fun s0 s1 s2 s5 => 
(k [(.bool false), s1, s2, s5] H : R))
noncomputable def c23 (C : CallF) (l0 : List AV) (H : AH) (k : AV → AH → R) : R := opn 0 l0 ((qFn (fun kr => (r23_0 (r23_1 C (r23_2 C (r23_3 C (r23_4 C kr))))))
(fun fr H => k (sel 0 fr) H) [undef, undef, undef, undef] H : R))
/- refectory/refectorylaw00.Doc -/
noncomputable def r24_20 (k : KT R) : KT R := fun fr H => opn 16 fr (fun s0 s1 s2 s4 s5 s6 s7 s8 s9 s10 s11 s13 s14 s41 s73 s100 => 
(qLdA 2 s7 H fun v127 =>
qSt 2 s4 v127 H fun _ H =>
k [s0, s1, s2, s4, s5, s6, s7, s8, s9, s10, s11, s13, s14, s41, s73, s100] H : R))
noncomputable def r24_19 (k : KT R) : KT R := fun fr H => opn 16 fr (fun s0 s1 s2 s4 s5 s6 s7 s8 s9 s10 s11 s13 s14 s41 s73 s100 => 
(qLdA 5 s6 H fun v124 =>
qRows z65 1 [(0, v124)] fun v125 =>
qFa 0 s7 fun v126 =>
qSt 1 v126 v125 H fun _ H =>
k [s0, s1, s2, s4, s5, s6, s7, s8, s9, s10, s11, s13, s14, s41, s73, s100] H : R))
noncomputable def r24_18 (k : KT R) : KT R := fun fr H => opn 16 fr (fun s0 s1 s2 s4 s5 s6 s7 s8 s9 s10 s11 s13 s14 s41 s73 s100 => 
(qNc s5 fun v120 =>
qFa 5 v120 fun v121 =>
qLd v121 H fun v122 =>
qFa 2 s6 fun v123 =>
qSt 1 v123 v122 H fun _ H =>
k [s0, s1, s2, s4, s5, s6, s7, s8, s9, s10, s11, s13, s14, s41, s73, s100] H : R))
noncomputable def r24_7 (k : KT R) : KT R := fun fr H => opn 16 fr (fun s0 s1 s2 s4 s5 s6 s7 s8 s9 s10 s11 s13 s14 s41 s73 s100 => 
(qAdd X 3 s8 (.int .i64 1) fun v43 =>
k [s0, s1, s2, s4, s5, s6, s7, v43, s9, s10, s11, s13, s14, s41, s73, s100] H : R))
noncomputable def r24_17 (k : KT R) : KT R := fun fr H => opn 16 fr (fun s0 s1 s2 s4 s5 s6 s7 s8 s9 s10 s11 s13 s14 s41 s73 s100 => 
(qFa 1 s7 fun v113 =>
qLd v113 H fun v114 =>
qLdA 4 s10 H fun v115 =>
qRows z67 1 [(0, v115)] fun v116 =>
qApp 4 80 v114 v116 false H fun v117 H =>
qFa 1 s7 fun v118 =>
qSt 1 v118 v117 H fun _ H =>
k [s0, s1, s2, s4, s5, s6, s7, s8, s9, s10, s11, s13, s14, s41, s73, s100] H : R))
noncomputable def r24_13 (k : KT R) : KT R := fun fr H => opn 16 fr (fun s0 s1 s2 s4 s5 s6 s7 s8 s9 s10 s11 s13 s14 s41 s73 s100 => 
(qAdd X 3 s13 (.int .i64 1) fun v75 =>
k [s0, s1, s2, s4, s5, s6, s7, s8, s9, s10, s11, v75, s14, s41, s73, s100] H : R))
noncomputable def r24_16 (k : KT R) : KT R := fun fr H => opn 16 fr (fun s0 s1 s2 s4 s5 s6 s7 s8 s9 s10 s11 s13 s14 s41 s73 s100 => 
(qFa 3 s10 fun v101 =>
qLd v101 H fun v102 =>
qFa 3 s11 fun v103 =>
qLd v103 H fun v104 =>
qIa 5 v104 s13 fun v106 =>
qFa 0 v106 fun v107 =>
qLd v107 H fun v108 =>
qBld z36 [(0, 1, (.int .i64 1)), (2, 1, v108)] fun v109 =>
qRows z36 1 [(0, v109)] fun v110 =>
qApp 7 128 v102 v110 false H fun v111 H =>
qFa 3 s10 fun v112 =>
qSt 1 v112 v111 H fun _ H =>
k [s0, s1, s2, s4, s5, s6, s7, s8, s9, s10, s11, s13, s14, s41, s73, s100] H : R))
noncomputable def r24_15 (k : KT R) : KT R := fun fr H => opn 16 fr (fun s0 s1 s2 s4 s5 s6 s7 s8 s9 s10 s11 s13 s14 s41 s73 s100 => 
(qFa 3 s11 fun v85 =>
qLd v85 H fun v86 =>
qIa 5 v86 s13 fun v88 =>
qFa 1 v88 fun v89 =>
qLd v89 H fun v90 =>
qLenL v90 fun v91 =>
qEql X 3 v91 (.int .i64 0) fun v92 =>
qG v92 true (fun k => k s14 H) H fun v94 H =>
qG v92 true (fun k => qEql X 3 v94 (.int .i64 1) fun v => k v H) H fun v95 H =>
qG v92 true (fun k => k v95 H) H fun v96 H =>
qG v96 false (fun k => k s14 H) H fun v97 H =>
qG v96 false (fun k => qEql X 3 v97 (.int .i64 5) fun v => k v H) H fun v98 H =>
qG v92 true (fun k => qPick v96 (.bool true) v98 fun v => k v H) H fun v99 H =>
qPick v92 v99 (.bool false) fun v100 =>
k [s0, s1, s2, s4, s5, s6, s7, s8, s9, s10, s11, s13, s14, s41, s73, v100] H : R))
noncomputable def r24_14 (C : CallF) (k : KT R) : KT R := fun fr H => opn 16 fr (fun s0 s1 s2 s4 s5 s6 s7 s8 s9 s10 s11 s13 s14 s41 s73 s100 => 
(qLdA 3 s2 H fun v76 =>
qFa 3 s11 fun v77 =>
qLd v77 H fun v78 =>
qIa 5 v78 s13 fun v80 =>
qFa 2 v80 fun v81 =>
qFa 0 v81 fun v82 =>
qLd v82 H fun v83 =>
qRes (C 43 [v76, v83] H) fun v84 H =>
k [s0, s1, s2, s4, s5, s6, s7, s8, s9, s10, s11, s13, v84, s41, s73, s100] H : R))
noncomputable def r24_12 (k : KT R) : KT R := fun fr H => opn 16 fr (fun s0 s1 s2 s4 s5 s6 s7 s8 s9 s10 s11 s13 s14 s41 s73 s100 => 
(qFa 3 s11 fun v70 =>
qLd v70 H fun v71 =>
qLenL v71 fun v72 =>
qLss X 3 s13 v72 fun v73 =>
k [s0, s1, s2, s4, s5, s6, s7, s8, s9, s10, s11, s13, s14, s41, v73, s100] H : R))
noncomputable def l24_8 (C : CallF) (k4 : KT R) : KT R → KT R := fun k5 => (r24_12 (qCd (sel 14) (fun k8 => k8) (fun _ => k4) (qBl (fun k6 => (r24_14 C (r24_15 (qCd (sel 15) (fun k7 => (r24_16 k7)) (fun k7 => k7) k6)))) (r24_13 k5))))
noncomputable def r24_11 (k : KT R) : KT R := fun fr H => opn 16 fr (fun s0 s1 s2 s4 s5 s6 s7 s8 s9 s10 s11 s13 s14 s41 s73 s100 => 
(k [s0, s1, s2, s4, s5, s6, s7, s8, s9, s10, s11, (.int .i64 0), s14, s41, s73, s100] H : R))
noncomputable def r24_10 (C : CallF) (k : KT R) : KT R := fun fr H => opn 16 fr (fun s0 s1 s2 s4 s5 s6 s7 s8 s9 s10 s11 s13 s14 s41 s73 s100 => 
(qLdA 3 s2 H fun v64 =>
qRes (C 42 [v64, s9] H) fun v66 H =>
qExt v66 0 fun v67 =>
qExt v66 1 fun v68 =>
qNew (.cells z110) .ptr H fun v11 H =>
qSt 5 v11 v67 H fun _ H =>
k [s0, s1, s2, s4, s5, s6, s7, s8, s9, s10, v11, s13, s14, s41, s73, s100] H : R))
noncomputable def r24_9 (k : KT R) : KT R := fun fr H => opn 16 fr (fun s0 s1 s2 s4 s5 s6 s7 s8 s9 s10 s11 s13 s14 s41 s73 s100 => 
(qNc s5 fun v53 =>
qFa 6 v53 fun v54 =>
qLd v54 H fun v55 =>
qIa 1 v55 s8 fun v57 =>
qLd v57 H fun v58 =>
qBld z36 [(0, 1, (.int .i64 1)), (2, 1, (.str [95,95,116,121,112,101,110,97,109,101]))] fun v60 =>
qRows z36 1 [(0, v60)] fun v61 =>
qBld z67 [(0, 1, v58), (1, 1, s9), (3, 1, v61)] fun v62 =>
qNew (.cells z67) .ptr H fun v10 H =>
qSt 4 v10 v62 H fun _ H =>
k [s0, s1, s2, s4, s5, s6, s7, s8, s9, v10, s11, s13, s14, s41, s73, s100] H : R))
noncomputable def r24_8 (k : KT R) : KT R := fun fr H => opn 16 fr (fun s0 s1 s2 s4 s5 s6 s7 s8 s9 s10 s11 s13 s14 s41 s73 s100 => 
(qNc s5 fun v45 =>
qFa 6 v45 fun v46 =>
qLd v46 H fun v47 =>
qIa 1 v47 s8 fun v49 =>
qLd v49 H fun v50 =>
qSlc Try.t9.desc 0 v50 (some (.int .i64 1)) none none fun v51 =>
k [s0, s1, s2, s4, s5, s6, s7, s8, v51, s10, s11, s13, s14, s41, s73, s100] H : R))
noncomputable def r24_6 (k : KT R) : KT R := fun fr H => opn 16 fr (fun s0 s1 s2 s4 s5 s6 s7 s8 s9 s10 s11 s13 s14 s41 s73 s100 => 
(qNc s5 fun v37 =>
qFa 6 v37 fun v38 =>
qLd v38 H fun v39 =>
qLenL v39 fun v40 =>
qLss X 3 s8 v40 fun v41 =>
k [s0, s1, s2, s4, s5, s6, s7, s8, s9, s10, s11, s13, s14, v41, s73, s100] H : R))
noncomputable def l24_9 (C : CallF) (k1 : KT R) : KT R → KT R := fun k2 => (r24_6 (qCd (sel 13) (fun k9 => k9) (fun _ => k1) (qBl (fun k3 => (r24_8 (r24_9 (r24_10 C (r24_11 (qBl (fun k4 => (qLoop (l24_8 C k4))) (r24_17 k3))))))) (r24_7 k2))))
noncomputable def r24_5 (k : KT R) : KT R := fun fr H => opn 16 fr (fun s0 s1 s2 s4 s5 s6 s7 s8 s9 s10 s11 s13 s14 s41 s73 s100 => 
(k [s0, s1, s2, s4, s5, s6, s7, (.int .i64 0), s9, s10, s11, s13, s14, s41, s73, s100] H : R))
noncomputable def r24_4 (k : KT R) : KT R := fun fr H => opn 16 fr (fun s0 s1 s2 s4 s5 s6 s7 s8 s9 s10 s11 s13 s14 s41 s73 s100 => 
(qBld z46 [] fun v34 =>
qNew (.cells z46) .ptr H fun v7 H =>
qSt 2 v7 v34 H fun _ H =>
k [s0, s1, s2, s4, s5, s6, v7, s8, s9, s10, s11, s13, s14, s41, s73, s100] H : R))
noncomputable def r24_3 (C : CallF) (k : KT R) : KT R := fun fr H => opn 16 fr (fun s0 s1 s2 s4 s5 s6 s7 s8 s9 s10 s11 s13 s14 s41 s73 s100 => 
(qLdA 3 s2 H fun v29 =>
qLdA 5 s6 H fun v30 =>
qRes (C 41 [v29, v30] H) fun v31 H =>
qRes (C 40 [s5, v31, (.int .i64 1)] H) fun v32 H =>
qFa 4 s6 fun v33 =>
qSt 1 v33 v32 H fun _ H =>
k [s0, s1, s2, s4, s5, s6, s7, s8, s9, s10, s11, s13, s14, s41, s73, s100] H : R))
noncomputable def r24_2 (C : CallF) (k : KT R) : KT R := fun fr H => opn 16 fr (fun s0 s1 s2 s4 s5 s6 s7 s8 s9 s10 s11 s13 s14 s41 s73 s100 => 
(qFa 1 s2 fun v19 =>
qLd v19 H fun v20 =>
qNeq X 9 v20 (.str []) fun v21 =>
qG v21 true (fun k => k s5 H) H fun v23 H =>
qG v21 true (fun k => qRes (C 39 [v23, (.int .i64 6)] H) k) H fun v24 H =>
qG v21 true (fun k => qEql X 3 v24 (.int .i64 1) fun v => k v H) H fun v25 H =>
qPick v21 v25 (.bool false) fun v26 =>
qBld z65 [(1, 1, (.str [81])), (0, 1, v26)] fun v27 =>
qNew (.cells z65) .ptr H fun v6 H =>
qSt 5 v6 v27 H fun _ H =>
k [s0, s1, s2, s4, s5, v6, s7, s8, s9, s10, s11, s13, s14, s41, s73, s100] H : R))
noncomputable def r24_1 (k : KT R) : KT R := fun fr H => opn 16 fr (fun s0 s1 s2 s4 s5 s6 s7 s8 s9 s10 s11 s13 s14 s41 s73 s100 => 
(qLdA 3 s2 H fun v16 =>
qBld z103 [(0, 1, s1), (2, 3, v16)] fun v17 =>
qBox v17 H fun v18 H =>
k [s0, s1, s2, s4, v18, s6, s7, s8, s9, s10, s11, s13, s14, s41, s73, s100] H : R))
noncomputable def r24_0 (k : KT R) : KT R := fun fr H => opn 16 fr (fun s0 s1 s2 s4 s5 s6 s7 s8 s9 s10 s11 s13 s14 s41 s73 s100 => 
(qBox s0 H fun v2 H =>
qNew (.cells z46) .ptr H fun v4 H =>
k [s0, s1, v2, v4, s5, s6, s7, s8, s9, s10, s11, s13, s14, s41, s73, s100] H : R))
noncomputable def c24 (C : CallF) (l0 : List AV) (H : AH) (k : AV → AH → R) : R := opn 2 l0 (fun x0 x1 => (qFn (fun kr => (r24_0 (r24_1 (r24_2 C (r24_3 C (r24_4 (r24_5 (qBl (fun k1 => (qLoop (l24_9 C k1))) (r24_18 (r24_19 (r24_20 kr)))))))))))
(fun fr H => qPtr (sel 3 fr) (qLdA 2 (sel 3 fr) H fun w0 => k w0 H)) [x0, x1, undef, undef, undef, undef, undef, undef, undef, undef, undef, undef, undef, undef, undef, undef] H : R))
/- refectory/merge.Check -/
noncomputable def r25_17 (k : KT R) : KT R := fun fr H => opn 20 fr (fun s0 s1 s2 s3 s4 s5 s7 s8 s10 s17 s18 s19 s20 s26 s34 s37 s38 s39 s40 s49 => 
(k [s0, s1, s2, s3, (.bool true), s5, s7, s8, s10, s17, s18, s19, s20, s26, s34, s37, s38, s39, s40, s49] H : R))
noncomputable def r25_16 (k : KT R) : KT R := fun fr H => opn 20 fr (fun s0 s1 s2 s3 s4 s5 s7 s8 s10 s17 s18 s19 s20 s26 s34 s37 s38 s39 s40 s49 => 
(qAdd X 3 s39 (.int .i64 1) fun v50 =>
k [s0, s1, s2, s3, s4, s5, s7, s8, s10, s17, s18, s19, s20, s26, s34, s37, s38, v50, s40, s49] H : R))
noncomputable def r25_15 (k : KT R) : KT R := fun fr H => opn 20 fr (fun s0 s1 s2 s3 s4 s5 s7 s8 s10 s17 s18 s19 s20 s26 s34 s37 s38 s39 s40 s49 => 
(k [s0, s1, s2, s3, (.bool false), s5, s7, s8, s10, s17, s18, s19, s20, s26, s34, s37, s38, s39, s40, s49] H : R))
noncomputable def r25_14 (C : CallF) (k : KT R) : KT R := fun fr H => opn 20 fr (fun s0 s1 s2 s3 s4 s5 s7 s8 s10 s17 s18 s19 s20 s26 s34 s37 s38 s39 s40 s49 => 
(qFa 3 s10 fun v44 =>
qLd v44 H fun v45 =>
qFa 1 s10 fun v46 =>
qLd v46 H fun v47 =>
qRes (C 44 [s5, v45, v47] H) fun v48 H =>
qNot v48 fun v49 =>
k [s0, s1, s2, s3, s4, s5, s7, s8, s10, s17, s18, s19, s20, s26, s34, s37, s38, s39, s40, v49] H : R))
noncomputable def r25_13 (k : KT R) : KT R := fun fr H => opn 20 fr (fun s0 s1 s2 s3 s4 s5 s7 s8 s10 s17 s18 s19 s20 s26 s34 s37 s38 s39 s40 s49 => 
(qIa 4 s37 s39 fun v41 =>
qLdA 4 v41 H fun v42 =>
qNew (.cells z67) .ptr H fun v10 H =>
qSt 4 v10 v42 H fun _ H =>
k [s0, s1, s2, s3, s4, s5, s7, s8, v10, s17, s18, s19, s20, s26, s34, s37, s38, s39, s40, s49] H : R))
noncomputable def r25_12 (k : KT R) : KT R := fun fr H => opn 20 fr (fun s0 s1 s2 s3 s4 s5 s7 s8 s10 s17 s18 s19 s20 s26 s34 s37 s38 s39 s40 s49 => 
(qLss X 3 s39 s38 fun v40 =>
k [s0, s1, s2, s3, s4, s5, s7, s8, s10, s17, s18, s19, s20, s26, s34, s37, s38, s39, v40, s49] H : R))
noncomputable def l25_5 (C : CallF) (k1 : KT R) (kr : KT R) : KT R → KT R := fun k2 => (r25_12 (qCd (sel 18) (fun k5 => k5) (fun _ => k1) (qBl (fun k3 => (r25_13 (r25_14 C (qCd (sel 19) (fun _ => (r25_15 kr)) (fun k4 => k4) k3)))) (r25_16 k2))))
noncomputable def r25_11 (k : KT R) : KT R := fun fr H => opn 20 fr (fun s0 s1 s2 s3 s4 s5 s7 s8 s10 s17 s18 s19 s20 s26 s34 s37 s38 s39 s40 s49 => 
(qFa 1 s3 fun v36 =>
qLd v36 H fun v37 =>
qLenL v37 fun v38 =>
k [s0, s1, s2, s3, s4, s5, s7, s8, s10, s17, s18, s19, s20, s26, s34, v37, v38, (.int .i64 0), s40, s49] H : R))
noncomputable def r25_10 (k : KT R) : KT R := fun fr H => opn 20 fr (fun s0 s1 s2 s3 s4 s5 s7 s8 s10 s17 s18 s19 s20 s26 s34 s37 s38 s39 s40 s49 => 
(qAdd X 3 s19 (.int .i64 1) fun v35 =>
k [s0, s1, s2, s3, s4, s5, s7, s8, s10, s17, s18, v35, s20, s26, s34, s37, s38, s39, s40, s49] H : R))
noncomputable def r25_9 (k : KT R) : KT R := fun fr H => opn 20 fr (fun s0 s1 s2 s3 s4 s5 s7 s8 s10 s17 s18 s19 s20 s26 s34 s37 s38 s39 s40 s49 => 
(k [s0, s1, s2, s3, (.bool false), s5, s7, s8, s10, s17, s18, s19, s20, s26, s34, s37, s38, s39, s40, s49] H : R))
noncomputable def r25_8 (C : CallF) (k : KT R) : KT R := fun fr H => opn 20 fr (fun s0 s1 s2 s3 s4 s5 s7 s8 s10 s17 s18 s19 s20 s26 s34 s37 s38 s39 s40 s49 => 
(qFa 4 s7 fun v30 =>
qLd v30 H fun v31 =>
qRes (C 44 [s5, v31, s8] H) fun v33 H =>
qNot v33 fun v34 =>
k [s0, s1, s2, s3, s4, s5, s7, s8, s10, s17, s18, s19, s20, s26, v34, s37, s38, s39, s40, s49] H : R))
noncomputable def r25_7 (k : KT R) : KT R := fun fr H => opn 20 fr (fun s0 s1 s2 s3 s4 s5 s7 s8 s10 s17 s18 s19 s20 s26 s34 s37 s38 s39 s40 s49 => 
(qFa 1 s2 fun v27 =>
qLd v27 H fun v28 =>
k [s0, s1, s2, s3, s4, s5, s7, v28, s10, s17, s18, s19, s20, s26, s34, s37, s38, s39, s40, s49] H : R))
noncomputable def r25_6 (k : KT R) : KT R := fun fr H => opn 20 fr (fun s0 s1 s2 s3 s4 s5 s7 s8 s10 s17 s18 s19 s20 s26 s34 s37 s38 s39 s40 s49 => 
(qFa 0 s7 fun v25 =>
qLd v25 H fun v26 =>
k [s0, s1, s2, s3, s4, s5, s7, s8, s10, s17, s18, s19, s20, v26, s34, s37, s38, s39, s40, s49] H : R))
noncomputable def r25_5 (k : KT R) : KT R := fun fr H => opn 20 fr (fun s0 s1 s2 s3 s4 s5 s7 s8 s10 s17 s18 s19 s20 s26 s34 s37 s38 s39 s40 s49 => 
(qFa 0 s2 fun v23 =>
qLd v23 H fun v24 =>
k [s0, s1, s2, s3, s4, s5, s7, v24, s10, s17, s18, s19, s20, s26, s34, s37, s38, s39, s40, s49] H : R))
noncomputable def r25_4 (k : KT R) : KT R := fun fr H => opn 20 fr (fun s0 s1 s2 s3 s4 s5 s7 s8 s10 s17 s18 s19 s20 s26 s34 s37 s38 s39 s40 s49 => 
(qIa 5 s17 s19 fun v21 =>
qLdA 5 v21 H fun v22 =>
qNew (.cells z65) .ptr H fun v7 H =>
qSt 5 v7 v22 H fun _ H =>
k [s0, s1, s2, s3, s4, s5, v7, s8, s10, s17, s18, s19, s20, s26, s34, s37, s38, s39, s40, s49] H : R))
noncomputable def r25_3 (k : KT R) : KT R := fun fr H => opn 20 fr (fun s0 s1 s2 s3 s4 s5 s7 s8 s10 s17 s18 s19 s20 s26 s34 s37 s38 s39 s40 s49 => 
(qLss X 3 s19 s18 fun v20 =>
k [s0, s1, s2, s3, s4, s5, s7, s8, s10, s17, s18, s19, v20, s26, s34, s37, s38, s39, s40, s49] H : R))
noncomputable def l25_11 (C : CallF) (k6 : KT R) (kr : KT R) : KT R → KT R := fun k7 => (r25_3 (qCd (sel 12) (fun k11 => k11) (fun _ => k6) (qBl (fun k8 => (r25_4 (r25_5 (r25_6 (qCd (sel 13) (fun k10 => (r25_7 k10)) (fun k10 => k10) (r25_8 C (qCd (sel 14) (fun _ => (r25_9 kr)) (fun k9 => k9) k8))))))) (r25_10 k7))))
noncomputable def r25_2 (k : KT R) : KT R := fun fr H => opn 20 fr (fun s0 s1 s2 s3 s4 s5 s7 s8 s10 s17 s18 s19 s20 s26 s34 s37 s38 s39 s40 s49 => 
(qFa 0 s3 fun v16 =>
qLd v16 H fun v17 =>
qLenL v17 fun v18 =>
k [s0, s1, s2, s3, s4, s5, s7, s8, s10, v17, v18, (.int .i64 0), s20, s26, s34, s37, s38, s39, s40, s49] H : R))
noncomputable def r25_1 (k : KT R) : KT R := fun fr H => opn 20 fr (fun s0 s1 s2 s3 s4 s5 s7 s8 s10 s17 s18 s19 s20 s26 s34 s37 s38 s39 s40 s49 => 
(qLdA 3 s2 H fun v11 =>
qLdA 2 s3 H fun v12 =>
qNew (.map []) .map H fun v13 H =>
qBld z121 [(0, 3, v11), (3, 2, v12), (5, 1, v13)] fun v14 =>
qBox v14 H fun v15 H =>
k [s0, s1, s2, s3, s4, v15, s7, s8, s10, s17, s18, s19, s20, s26, s34, s37, s38, s39, s40, s49] H : R))
noncomputable def r25_0 (k : KT R) : KT R := fun fr H => opn 20 fr (fun s0 s1 s2 s3 s4 s5 s7 s8 s10 s17 s18 s19 s20 s26 s34 s37 s38 s39 s40 s49 => 
(qBox s0 H fun v2 H =>
qBox s1 H fun v3 H =>
k [s0, s1, v2, v3, (.bool false), s5, s7, s8, s10, s17, s18, s19, s20, s26, s34, s37, s38, s39, s40, s49] H : R))
noncomputable def c25 (C : CallF) (l0 : List AV) (H : AH) (k : AV → AH → R) : R := opn 2 l0 (fun x0 x1 => (qFn (fun kr => (r25_0 (r25_1 (r25_2 (qBl (fun k6 => (qLoop (l25_11 C k6 kr))) (r25_11 (qBl (fun k1 => (qLoop (l25_5 C k1 kr))) (r25_17 kr))))))))
(fun fr H => k (sel 4 fr) H) [x0, x1, undef, undef, undef, undef, undef, undef, undef, undef, undef, undef, undef, undef, undef, undef, undef, undef, undef, undef] H : R))
/- refectory/cost.Cost -/
noncomputable def r26_5 (C : CallF) (k : KT R) : KT R := fun fr H => opn 10 fr (fun s0 s1 s2 s3 s4 s5 s6 s7 s8 s17 => 
(qFa 4 s5 fun v21 =>
qLd v21 H fun v22 =>
qRes (C 45 [s7, v22, s8] H) fun v24 H =>
k [s0, s1, s2, s3, s4, s5, v24, s7, s8, s17] H : R))
noncomputable def r26_4 (k : KT R) : KT R := fun fr H => opn 10 fr (fun s0 s1 s2 s3 s4 s5 s6 s7 s8 s17 => 
(qFa 1 s3 fun v18 =>
qLd v18 H fun v19 =>
k [s0, s1, s2, s3, s4, s5, s6, s7, v19, s17] H : R))
noncomputable def r26_3 (k : KT R) : KT R := fun fr H => opn 10 fr (fun s0 s1 s2 s3 s4 s5 s6 s7 s8 s17 => 
(qFa 0 s5 fun v16 =>
qLd v16 H fun v17 =>
k [s0, s1, s2, s3, s4, s5, s6, s7, s8, v17] H : R))
noncomputable def r26_2 (k : KT R) : KT R := fun fr H => opn 10 fr (fun s0 s1 s2 s3 s4 s5 s6 s7 s8 s17 => 
(qFa 0 s3 fun v14 =>
qLd v14 H fun v15 =>
k [s0, s1, s2, s3, s4, s5, s6, s7, v15, s17] H : R))
noncomputable def r26_1 (k : KT R) : KT R := fun fr H => opn 10 fr (fun s0 s1 s2 s3 s4 s5 s6 s7 s8 s17 => 
(qLdA 3 s3 H fun v9 =>
qLdA 2 s4 H fun v10 =>
qNew (.map []) .map H fun v11 H =>
qBld z125 [(0, 3, v9), (3, 2, v10), (5, 1, v11)] fun v12 =>
qBox v12 H fun v13 H =>
k [s0, s1, s2, s3, s4, s5, s6, v13, s8, s17] H : R))
noncomputable def r26_0 (k : KT R) : KT R := fun fr H => opn 10 fr (fun s0 s1 s2 s3 s4 s5 s6 s7 s8 s17 => 
(qBox s0 H fun v3 H =>
qBox s1 H fun v4 H =>
qBox s2 H fun v5 H =>
k [s0, s1, s2, v3, v4, v5, (.int .i64 0), s7, s8, s17] H : R))
noncomputable def c26 (C : CallF) (l0 : List AV) (H : AH) (k : AV → AH → R) : R := opn 3 l0 (fun x0 x1 x2 => (qFn (fun kr => (r26_0 (r26_1 (r26_2 (r26_3 (qCd (sel 9) (fun k1 => (r26_4 k1)) (fun k1 => k1) (r26_5 C kr)))))))
(fun fr H => k (sel 6 fr) H) [x0, x1, x2, undef, undef, undef, undef, undef, undef, undef] H : R))
/- refectory/cost.Deep -/
noncomputable def r27_2 (C : CallF) (k : KT R) : KT R := fun fr H => opn 6 fr (fun s0 s1 s2 s3 s4 s5 => 
(qFa 4 s3 fun v11 =>
qLd v11 H fun v12 =>
qRes (C 46 [s5, v12] H) fun v13 H =>
qAdd X 3 (.int .i64 1) v13 fun v14 =>
qO (foldO min2 v14 [(.int .i64 1000)]) fun v15 =>
k [s0, s1, s2, s3, v15, s5] H : R))
noncomputable def r27_1 (k : KT R) : KT R := fun fr H => opn 6 fr (fun s0 s1 s2 s3 s4 s5 => 
(qLdA 2 s2 H fun v6 =>
qNew (.map []) .map H fun v7 H =>
qBld z125 [(3, 2, v6), (6, 1, v7)] fun v8 =>
qBox v8 H fun v9 H =>
k [s0, s1, s2, s3, s4, v9] H : R))
noncomputable def r27_0 (k : KT R) : KT R := fun fr H => opn 6 fr (fun s0 s1 s2 s3 s4 s5 => 
(qBox s0 H fun v2 H =>
qBox s1 H fun v3 H =>
k [s0, s1, v2, v3, (.int .i64 0), s5] H : R))
noncomputable def c27 (C : CallF) (l0 : List AV) (H : AH) (k : AV → AH → R) : R := opn 2 l0 (fun x0 x1 => (qFn (fun kr => (r27_0 (r27_1 (r27_2 C kr))))
(fun fr H => k (sel 4 fr) H) [x0, x1, undef, undef, undef, undef] H : R))
/- refectory/refectorylaw16.awake -/
noncomputable def r28_4 (C : CallF) (k : KT R) : KT R := fun fr H => opn 4 fr (fun s0 s1 s2 s5 => 
(qFa 0 s2 fun v19 =>
qLd v19 H fun v20 =>
qLenL v20 fun v21 =>
qEql X 3 v21 (.int .i64 1) fun v22 =>
qG v22 true (fun k => qFa 0 s5 fun v => k v H) H fun v24 H =>
qG v22 true (fun k => qLd v24 H fun v => k v H) H fun v25 H =>
qG v22 true (fun k => qLenL v25 fun v => k v H) H fun v26 H =>
qG v22 true (fun k => qEql X 3 v26 (.int .i64 1) fun v => k v H) H fun v27 H =>
qPick v22 v27 (.bool false) fun v28 =>
qG v28 true (fun k => qLdA 3 s1 H fun v => k v H) H fun v30 H =>
qG v28 true (fun k => qLdA 2 s2 H fun v => k v H) H fun v31 H =>
qG v28 true (fun k => qFa 0 s2 fun v => k v H) H fun v32 H =>
qG v28 true (fun k => qLd v32 H fun v => k v H) H fun v33 H =>
qG v28 true (fun k => qIa 5 v33 (.int .i64 0) fun v => k v H) H fun v34 H =>
qG v28 true (fun k => qLdA 5 v34 H fun v => k v H) H fun v35 H =>
qG v28 true (fun k => qRes (C 26 [v30, v31, v35] H) k) H fun v36 H =>
qG v28 true (fun k => qEql X 3 v36 (.int .i64 1) fun v => k v H) H fun v37 H =>
qPick v28 v37 (.bool false) fun v38 =>
qG v38 true (fun k => qLdA 3 s1 H fun v => k v H) H fun v40 H =>
qG v38 true (fun k => qLdA 2 s5 H fun v => k v H) H fun v41 H =>
qG v38 true (fun k => qFa 0 s5 fun v => k v H) H fun v42 H =>
qG v38 true (fun k => qLd v42 H fun v => k v H) H fun v43 H =>
qG v38 true (fun k => qIa 5 v43 (.int .i64 0) fun v => k v H) H fun v44 H =>
qG v38 true (fun k => qLdA 5 v44 H fun v => k v H) H fun v45 H =>
qG v38 true (fun k => qRes (C 26 [v40, v41, v45] H) k) H fun v46 H =>
qG v38 true (fun k => qEql X 3 v46 (.int .i64 9) fun v => k v H) H fun v47 H =>
qPick v38 v47 (.bool false) fun v48 =>
qG v48 true (fun k => qLdA 2 s5 H fun v => k v H) H fun v50 H =>
qG v48 true (fun k => qFa 0 s5 fun v => k v H) H fun v51 H =>
qG v48 true (fun k => qLd v51 H fun v => k v H) H fun v52 H =>
qG v48 true (fun k => qIa 5 v52 (.int .i64 0) fun v => k v H) H fun v53 H =>
qG v48 true (fun k => qLdA 5 v53 H fun v => k v H) H fun v54 H =>
qG v48 true (fun k => qRes (C 27 [v50, v54] H) k) H fun v55 H =>
qG v48 true (fun k => qEql X 3 v55 (.int .i64 2) fun v => k v H) H fun v56 H =>
qPick v48 v56 (.bool false) fun v57 =>
k [v57, s1, s2, s5] H : R))
noncomputable def r28_3 (C : CallF) (k : KT R) : KT R := fun fr H => opn 4 fr (fun s0 s1 s2 s5 => 
(qRes (C 19 [(.str [123,100,123,105,100,125,104,125])] H) fun v15 H =>
qExt v15 0 fun v16 =>
qExt v15 1 fun v17 =>
qExt v15 2 fun v18 =>
qNew (.cells z46) .ptr H fun v5 H =>
qSt 2 v5 v16 H fun _ H =>
k [s0, s1, s2, v5] H : R))
noncomputable def r28_2 (C : CallF) (k : KT R) : KT R := fun fr H => opn 4 fr (fun s0 s1 s2 s5 => 
(qRes (C 19 [(.str [123,97,125])] H) fun v10 H =>
qExt v10 0 fun v11 =>
qExt v10 1 fun v12 =>
qExt v10 2 fun v13 =>
qNew (.cells z46) .ptr H fun v2 H =>
qSt 2 v2 v11 H fun _ H =>
k [s0, s1, v2, s5] H : R))
noncomputable def r28_1 (C : CallF) (k : KT R) : KT R := fun fr H => opn 4 fr (fun s0 s1 s2 s5 => 
(qRes (C 13 [(.int .i64 1)] H) fun v8 H =>
qNew (.cells z24) .ptr H fun v1 H =>
qSt 3 v1 v8 H fun _ H =>
k [s0, v1, s2, s5] H : R))
noncomputable def r28_0 (k : KT R) : KT R := fun fr H => opn 4 fr (fun s0 s1 s2 s5 => 
(k [(.bool false), s1, s2, s5] H : R))
noncomputable def c28 (C : CallF) (l0 : List AV) (H : AH) (k : AV → AH → R) : R := opn 0 l0 ((qFn (fun kr => (r28_0 (r28_1 C (r28_2 C (r28_3 C (r28_4 C kr))))))
(fun fr H => k (sel 0 fr) H) [undef, undef, undef, undef] H : R))
/- refectory/refectoryref08.Parse -/
noncomputable def r29_25 (k : KT R) : KT R := fun fr H => opn 19 fr (fun s0 s2 s3 s4 s5 s6 s7 s8 s9 s10 s11 s19 s40 s48 s62 s71 s87 s93 s102 => 
(qLdA 3 s9 H fun v104 =>
qSt 3 s2 v104 H fun _ H =>
k [s0, s2, (.int .i64 0), (.int .i64 0), s5, s6, s7, s8, s9, s10, s11, s19, s40, s48, s62, s71, s87, s93, s102] H : R))
noncomputable def r29_22 (k : KT R) : KT R := fun fr H => opn 19 fr (fun s0 s2 s3 s4 s5 s6 s7 s8 s9 s10 s11 s19 s40 s48 s62 s71 s87 s93 s102 => 
(qAdd X 3 s11 (.int .i64 1) fun v95 =>
k [s0, s2, s3, s4, s5, s6, s7, s8, s9, s10, v95, s19, s40, s48, s62, s71, s87, s93, s102] H : R))
noncomputable def r29_24 (k : KT R) : KT R := fun fr H => opn 19 fr (fun s0 s2 s3 s4 s5 s6 s7 s8 s9 s10 s11 s19 s40 s48 s62 s71 s87 s93 s102 => 
(qFa 1 s9 fun v103 =>
qSt 1 v103 (.str [77,117,116,97,116,105,111,110]) H fun _ H =>
k [s0, s2, s3, s4, s5, s6, s7, s8, s9, s10, s11, s19, s40, s48, s62, s71, s87, s93, s102] H : R))
noncomputable def r29_23 (k : KT R) : KT R := fun fr H => opn 19 fr (fun s0 s2 s3 s4 s5 s6 s7 s8 s9 s10 s11 s19 s40 s48 s62 s71 s87 s93 s102 => 
(qFa 2 s9 fun v96 =>
qLd v96 H fun v97 =>
qIa 5 v97 s11 fun v99 =>
qFa 1 v99 fun v100 =>
qLd v100 H fun v101 =>
qEql X 9 v101 (.str [77,117,116,97,116,105,111,110]) fun v102 =>
k [s0, s2, s3, s4, s5, s6, s7, s8, s9, s10, s11, s19, s40, s48, s62, s71, s87, s93, v102] H : R))
noncomputable def r29_21 (k : KT R) : KT R := fun fr H => opn 19 fr (fun s0 s2 s3 s4 s5 s6 s7 s8 s9 s10 s11 s19 s40 s48 s62 s71 s87 s93 s102 => 
(qFa 2 s9 fun v90 =>
qLd v90 H fun v91 =>
qLenL v91 fun v92 =>
qLss X 3 s11 v92 fun v93 =>
k [s0, s2, s3, s4, s5, s6, s7, s8, s9, s10, s11, s19, s40, s48, s62, s71, s87, v93, s102] H : R))
noncomputable def l29_6 (k2 : KT R) : KT R → KT R := fun k3 => (r29_21 (qCd (sel 17) (fun k6 => k6) (fun _ => k2) (qBl (fun k4 => (r29_23 (qCd (sel 18) (fun k5 => (r29_24 k5)) (fun k5 => k5) k4))) (r29_22 k3))))
noncomputable def r29_20 (k : KT R) : KT R := fun fr H => opn 19 fr (fun s0 s2 s3 s4 s5 s6 s7 s8 s9 s10 s11 s19 s40 s48 s62 s71 s87 s93 s102 => 
(k [s0, s2, s3, s4, s5, s6, s7, s8, s9, s10, (.int .i64 0), s19, s40, s48, s62, s71, s87, s93, s102] H : R))
noncomputable def r29_19 (k : KT R) : KT R := fun fr H => opn 19 fr (fun s0 s2 s3 s4 s5 s6 s7 s8 s9 s10 s11 s19 s40 s48 s62 s71 s87 s93 s102 => 
(qFa 0 s9 fun v88 =>
qSt 1 v88 (.str [81,117,101,114,121]) H fun _ H =>
k [s0, s2, s3, s4, s5, s6, s7, s8, s9, s10, s11, s19, s40, s48, s62, s71, s87, s93, s102] H : R))
noncomputable def r29_18 (k : KT R) : KT R := fun fr H => opn 19 fr (fun s0 s2 s3 s4 s5 s6 s7 s8 s9 s10 s11 s19 s40 s48 s62 s71 s87 s93 s102 => 
(qNot s10 fun v87 =>
k [s0, s2, s3, s4, s5, s6, s7, s8, s9, s10, s11, s19, s40, s48, s62, s71, v87, s93, s102] H : R))
noncomputable def r29_17 (k : KT R) : KT R := fun fr H => opn 19 fr (fun s0 s2 s3 s4 s5 s6 s7 s8 s9 s10 s11 s19 s40 s48 s62 s71 s87 s93 s102 => 
(qBld z24 [] fun v80 =>
qNc s8 fun v83 =>
qFa 2 v83 fun v84 =>
qLd v84 H fun v85 =>
qSt 3 s2 v80 H fun _ H =>
qLd v84 H fun w => qSame v85 w (k [s0, s2, s6, v85, s5, s6, s7, s8, s9, s10, s11, s19, s40, s48, s62, s71, s87, s93, s102] H) : R))
noncomputable def r29_16 (k : KT R) : KT R := fun fr H => opn 19 fr (fun s0 s2 s3 s4 s5 s6 s7 s8 s9 s10 s11 s19 s40 s48 s62 s71 s87 s93 s102 => 
(qNc s8 fun v74 =>
qFa 3 v74 fun v75 =>
qLd v75 H fun v76 =>
qIa 3 s5 v76 fun v77 =>
qFa 2 v77 fun v78 =>
qLd v78 H fun v79 =>
k [s0, s2, s3, s4, s5, v79, s7, s8, s9, s10, s11, s19, s40, s48, s62, s71, s87, s93, s102] H : R))
noncomputable def r29_15 (k : KT R) : KT R := fun fr H => opn 19 fr (fun s0 s2 s3 s4 s5 s6 s7 s8 s9 s10 s11 s19 s40 s48 s62 s71 s87 s93 s102 => 
(qNc s8 fun v66 =>
qFa 3 v66 fun v67 =>
qLd v67 H fun v68 =>
qLenL s5 fun v70 =>
qLss X 3 v68 v70 fun v71 =>
k [s0, s2, s3, s4, s5, s6, s7, s8, s9, s10, s11, s19, s40, s48, s62, v71, s87, s93, s102] H : R))
noncomputable def r29_14 (k : KT R) : KT R := fun fr H => opn 19 fr (fun s0 s2 s3 s4 s5 s6 s7 s8 s9 s10 s11 s19 s40 s48 s62 s71 s87 s93 s102 => 
(qLenS s0 fun v64 =>
k [s0, s2, s3, s4, s5, v64, s7, s8, s9, s10, s11, s19, s40, s48, s62, s71, s87, s93, s102] H : R))
noncomputable def r29_13 (k : KT R) : KT R := fun fr H => opn 19 fr (fun s0 s2 s3 s4 s5 s6 s7 s8 s9 s10 s11 s19 s40 s48 s62 s71 s87 s93 s102 => 
(qNc s8 fun v59 =>
qFa 2 v59 fun v60 =>
qLd v60 H fun v61 =>
qNeq X 57 v61 (.int .i64 0) fun v62 =>
k [s0, s2, s3, s4, s5, s6, s7, s8, s9, s10, s11, s19, s40, s48, v62, s71, s87, s93, s102] H : R))
noncomputable def r29_12 (C : CallF) (k : KT R) : KT R := fun fr H => opn 19 fr (fun s0 s2 s3 s4 s5 s6 s7 s8 s9 s10 s11 s19 s40 s48 s62 s71 s87 s93 s102 => 
(qFa 2 s9 fun v51 =>
qLd v51 H fun v52 =>
qRes (C 50 [s8] H) fun v54 H =>
qLd v51 H fun w => qSame v52 w (qRows z110 1 [(0, v54)] fun v55 =>
qApp 5 96 v52 v55 false H fun v56 H =>
qFa 2 s9 fun v57 =>
qSt 1 v57 v56 H fun _ H =>
k [s0, s2, s3, s4, s5, s6, s7, s8, s9, s10, s11, s19, s40, s48, s62, s71, s87, s93, s102] H) : R))
noncomputable def r29_11 (C : CallF) (k : KT R) : KT R := fun fr H => opn 19 fr (fun s0 s2 s3 s4 s5 s6 s7 s8 s9 s10 s11 s19 s40 s48 s62 s71 s87 s93 s102 => 
(qRes (C 49 [s8, s9] H) fun v50 H =>
k [s0, s2, s3, s4, s5, s6, s7, s8, s9, s10, s11, s19, s40, s48, s62, s71, s87, s93, s102] H : R))
noncomputable def r29_10 (k : KT R) : KT R := fun fr H => opn 19 fr (fun s0 s2 s3 s4 s5 s6 s7 s8 s9 s10 s11 s19 s40 s48 s62 s71 s87 s93 s102 => 
(k [s0, s2, s3, s4, s5, s6, s7, s8, s9, (.bool true), s11, s19, s40, s48, s62, s71, s87, s93, s102] H : R))
noncomputable def r29_9 (C : CallF) (k : KT R) : KT R := fun fr H => opn 19 fr (fun s0 s2 s3 s4 s5 s6 s7 s8 s9 s10 s11 s19 s40 s48 s62 s71 s87 s93 s102 => 
(qNot s10 fun v44 =>
qG v44 true (fun k => k s8 H) H fun v46 H =>
qG v44 true (fun k => qRes (C 48 [v46, (.int .i64 1), (.str [115,99,104,101,109,97])] H) k) H fun v47 H =>
qPick v44 v47 (.bool false) fun v48 =>
k [s0, s2, s3, s4, s5, s6, s7, s8, s9, s10, s11, s19, s40, v48, s62, s71, s87, s93, s102] H : R))
noncomputable def r29_8 (C : CallF) (k : KT R) : KT R := fun fr H => opn 19 fr (fun s0 s2 s3 s4 s5 s6 s7 s8 s9 s10 s11 s19 s40 s48 s62 s71 s87 s93 s102 => 
(qRes (C 47 [s8] H) fun v42 H =>
k [s0, s2, s3, s4, s5, s6, s7, s8, s9, s10, s11, s19, s40, s48, s62, s71, s87, s93, s102] H : R))
noncomputable def r29_7 (k : KT R) : KT R := fun fr H => opn 19 fr (fun s0 s2 s3 s4 s5 s6 s7 s8 s9 s10 s11 s19 s40 s48 s62 s71 s87 s93 s102 => 
(qNc s8 fun v28 =>
qFa 2 v28 fun v29 =>
qLd v29 H fun v30 =>
qEql X 57 v30 (.int .i64 0) fun v31 =>
qG v31 true (fun k => k s8 H) H fun v33 H =>
qG v31 true (fun k => qNc v33 fun v => k v H) H fun v34 H =>
qG v31 true (fun k => qFa 1 v34 fun v => k v H) H fun v35 H =>
qG v31 true (fun k => qLd v35 H fun v => k v H) H fun v36 H =>
qG v31 true (fun k => k s5 H) H fun v37 H =>
qG v31 true (fun k => qLenL v37 fun v => k v H) H fun v38 H =>
qG v31 true (fun k => qLss X 3 v36 v38 fun v => k v H) H fun v39 H =>
qPick v31 v39 (.bool false) fun v40 =>
k [s0, s2, s3, s4, s5, s6, s7, s8, s9, s10, s11, s19, v40, s48, s62, s71, s87, s93, s102] H : R))
noncomputable def l29_13 (C : CallF) (k9 : KT R) : KT R → KT R := fun k10 => (r29_7 (qCd (sel 12) (fun k13 => k13) (fun _ => k9) (qBl (fun k11 => (r29_8 C (r29_9 C (qCd (sel 13) (fun _ => (r29_10 (r29_11 C k11))) (fun k12 => k12) (r29_12 C k11))))) k10)))
noncomputable def r29_6 (k : KT R) : KT R := fun fr H => opn 19 fr (fun s0 s2 s3 s4 s5 s6 s7 s8 s9 s10 s11 s19 s40 s48 s62 s71 s87 s93 s102 => 
(k [s0, s2, s3, s4, s5, s6, s7, s8, s9, (.bool false), s11, s19, s40, s48, s62, s71, s87, s93, s102] H : R))
noncomputable def r29_5 (k : KT R) : KT R := fun fr H => opn 19 fr (fun s0 s2 s3 s4 s5 s6 s7 s8 s9 s10 s11 s19 s40 s48 s62 s71 s87 s93 s102 => 
(qBld z24 [] fun v26 =>
qNew (.cells z24) .ptr H fun v9 H =>
qSt 3 v9 v26 H fun _ H =>
k [s0, s2, s3, s4, s5, s6, s7, s8, v9, s10, s11, s19, s40, s48, s62, s71, s87, s93, s102] H : R))
noncomputable def r29_4 (k : KT R) : KT R := fun fr H => opn 19 fr (fun s0 s2 s3 s4 s5 s6 s7 s8 s9 s10 s11 s19 s40 s48 s62 s71 s87 s93 s102 => 
(qBld z93 [(0, 1, s5)] fun v24 =>
qBox v24 H fun v25 H =>
k [s0, s2, s3, s4, s5, s6, s7, v25, s9, s10, s11, s19, s40, s48, s62, s71, s87, s93, s102] H : R))
noncomputable def r29_3 (k : KT R) : KT R := fun fr H => opn 19 fr (fun s0 s2 s3 s4 s5 s6 s7 s8 s9 s10 s11 s19 s40 s48 s62 s71 s87 s93 s102 => 
(qBld z24 [] fun v20 =>
qSt 3 s2 v20 H fun _ H =>
k [s0, s2, s6, s7, s5, s6, s7, s8, s9, s10, s11, s19, s40, s48, s62, s71, s87, s93, s102] H : R))
noncomputable def r29_2 (k : KT R) : KT R := fun fr H => opn 19 fr (fun s0 s2 s3 s4 s5 s6 s7 s8 s9 s10 s11 s19 s40 s48 s62 s71 s87 s93 s102 => 
(qNeq X 57 s7 (.int .i64 0) fun v19 =>
k [s0, s2, s3, s4, s5, s6, s7, s8, s9, s10, s11, v19, s40, s48, s62, s71, s87, s93, s102] H : R))
noncomputable def r29_1 (C : CallF) (k : KT R) : KT R := fun fr H => opn 19 fr (fun s0 s2 s3 s4 s5 s6 s7 s8 s9 s10 s11 s19 s40 s48 s62 s71 s87 s93 s102 => 
(qRes (C 32 [s0] H) fun v14 H =>
qExt v14 0 fun v15 =>
qExt v14 1 fun v16 =>
qExt v14 2 fun v17 =>
k [s0, s2, s3, s4, v15, v16, v17, s8, s9, s10, s11, s19, s40, s48, s62, s71, s87, s93, s102] H : R))
noncomputable def r29_0 (k : KT R) : KT R := fun fr H => opn 19 fr (fun s0 s2 s3 s4 s5 s6 s7 s8 s9 s10 s11 s19 s40 s48 s62 s71 s87 s93 s102 => 
(qNew (.cells z24) .ptr H fun v2 H =>
k [s0, v2, (.int .i64 0), (.int .i64 0), s5, s6, s7, s8, s9, s10, s11, s19, s40, s48, s62, s71, s87, s93, s102] H : R))
noncomputable def c29 (C : CallF) (l0 : List AV) (H : AH) (k : AV → AH → R) : R := opn 1 l0 (fun x0 => (qFn (fun kr => (r29_0 (r29_1 C (r29_2 (qCd (sel 11) (fun _ => (r29_3 kr)) (fun k14 => k14) (r29_4 (r29_5 (r29_6 (qBl (fun k9 => (qLoop (l29_13 C k9))) (r29_13 (qCd (sel 14) (fun _ => (r29_14 (r29_15 (qCd (sel 15) (fun k8 => (r29_16 k8)) (fun k8 => k8) (r29_17 kr))))) (fun k7 => k7) (r29_18 (qCd (sel 16) (fun k1 => (r29_19 (r29_20 (qBl (fun k2 => (qLoop (l29_6 k2))) k1)))) (fun k1 => k1) (r29_25 kr))))))))))))))
(fun fr H => qPtr (sel 1 fr) (qLdA 3 (sel 1 fr) H fun w0 => k (.tup [w0, (sel 2 fr), (sel 3 fr)]) H)) [x0, undef, undef, undef, undef, undef, undef, undef, undef, undef, undef, undef, undef, undef, undef, undef, undef, undef, undef] H : R))
/- (*refectory/collect.gather).walk -/
noncomputable def r30_14 (k : KT R) : KT R := fun fr H => opn 15 fr (fun s0 s1 s5 s6 s7 s8 s9 s10 s11 s14 s18 s25 s37 s42 s78 => 
(qAdd X 3 s10 (.int .i64 1) fun v83 =>
k [s0, s1, s5, s6, s7, s8, s9, v83, s11, s14, s18, s25, s37, s42, s78] H : R))
noncomputable def r30_5 (C : CallF) (k : KT R) : KT R := fun fr H => opn 15 fr (fun s0 s1 s5 s6 s7 s8 s9 s10 s11 s14 s18 s25 s37 s42 s78 => 
(qLdA 7 s5 H fun v23 =>
qRes (C 52 [s0, v23] H) fun v24 H =>
k [s0, s1, s5, s6, s7, s8, s9, s10, s11, s14, s18, s25, s37, s42, s78] H : R))
noncomputable def r30_8 (C : CallF) (k : KT R) : KT R := fun fr H => opn 15 fr (fun s0 s1 s5 s6 s7 s8 s9 s10 s11 s14 s18 s25 s37 s42 s78 => 
(qFa 6 s5 fun v39 =>
qLd v39 H fun v40 =>
qRes (C 30 [s0, v40] H) fun v41 H =>
k [s0, s1, s5, s6, s7, s8, s9, s10, s11, s14, s18, s25, s37, s42, s78] H : R))
noncomputable def r30_7 (C : CallF) (k : KT R) : KT R := fun fr H => opn 15 fr (fun s0 s1 s5 s6 s7 s8 s9 s10 s11 s14 s18 s25 s37 s42 s78 => 
(qFa 3 s5 fun v29 =>
qLd v29 H fun v30 =>
qEql X 9 v30 (.str []) fun v31 =>
qG v31 false (fun k => k s0 H) H fun v33 H =>
qG v31 false (fun k => qFa 3 s5 fun v => k v H) H fun v34 H =>
qG v31 false (fun k => qLd v34 H fun v => k v H) H fun v35 H =>
qG v31 false (fun k => qRes (C 53 [v33, v35] H) k) H fun v36 H =>
qPick v31 (.bool true) v36 fun v37 =>
k [s0, s1, s5, s6, s7, s8, s9, s10, s11, s14, s18, s25, v37, s42, s78] H : R))
noncomputable def r30_13 (C : CallF) (k : KT R) : KT R := fun fr H => opn 15 fr (fun s0 s1 s5 s6 s7 s8 s9 s10 s11 s14 s18 s25 s37 s42 s78 => 
(qFa 3 s6 fun v80 =>
qLd v80 H fun v81 =>
qRes (C 30 [s0, v81] H) fun v82 H =>
k [s0, s1, s5, s6, s7, s8, s9, s10, s11, s14, s18, s25, s37, s42, s78] H : R))
noncomputable def r30_12 (C : CallF) (k : KT R) : KT R := fun fr H => opn 15 fr (fun s0 s1 s5 s6 s7 s8 s9 s10 s11 s14 s18 s25 s37 s42 s78 => 
(qG s7 true (fun k => k s0 H) H fun v74 H =>
qG s7 true (fun k => qFa 1 s6 fun v => k v H) H fun v75 H =>
qG s7 true (fun k => qLd v75 H fun v => k v H) H fun v76 H =>
qG s7 true (fun k => qRes (C 53 [v74, v76] H) k) H fun v77 H =>
qPick s7 v77 (.bool false) fun v78 =>
k [s0, s1, s5, s6, s7, s8, s9, s10, s11, s14, s18, s25, s37, s42, v78] H : R))
noncomputable def r30_11 (C : CallF) (k : KT R) : KT R := fun fr H => opn 15 fr (fun s0 s1 s5 s6 s7 s8 s9 s10 s11 s14 s18 s25 s37 s42 s78 => 
(qNc s0 fun v64 =>
qFa 3 v64 fun v65 =>
qLdA 2 v65 H fun v66 =>
qFa 2 s5 fun v67 =>
qLd v67 H fun v68 =>
qNew (.cells z67) .ptr H fun v6 H =>
qRes (C 37 [v66, v68] H) fun v69 H =>
qKeep z67 v6 H (qExt v69 0 fun v70 =>
qExt v69 1 fun v71 =>
qSt 4 v6 v70 H fun _ H =>
k [s0, s1, s5, v6, v71, s8, s9, s10, s11, s14, s18, s25, s37, s42, s78] H) : R))
noncomputable def r30_10 (k : KT R) : KT R := fun fr H => opn 15 fr (fun s0 s1 s5 s6 s7 s8 s9 s10 s11 s14 s18 s25 s37 s42 s78 => 
(qNc s0 fun v57 =>
qFa 12 v57 fun v58 =>
qLd v58 H fun v59 =>
qFa 2 s5 fun v60 =>
qLd v60 H fun v61 =>
qMset X 84 v59 v61 (.bool true) H fun _ H =>
k [s0, s1, s5, s6, s7, s8, s9, s10, s11, s14, s18, s25, s37, s42, s78] H : R))
noncomputable def r30_9 (k : KT R) : KT R := fun fr H => opn 15 fr (fun s0 s1 s5 s6 s7 s8 s9 s10 s11 s14 s18 s25 s37 s42 s78 => 
(qFa 0 s5 fun v43 =>
qLd v43 H fun v44 =>
qEql X 3 v44 (.int .i64 2) fun v45 =>
qG v45 true (fun k => k s0 H) H fun v47 H =>
qG v45 true (fun k => qNc v47 fun v => k v H) H fun v48 H =>
qG v45 true (fun k => qFa 12 v48 fun v => k v H) H fun v49 H =>
qG v45 true (fun k => qLd v49 H fun v => k v H) H fun v50 H =>
qG v45 true (fun k => qFa 2 s5 fun v => k v H) H fun v51 H =>
qG v45 true (fun k => qLd v51 H fun v => k v H) H fun v52 H =>
qG v45 true (fun k => qO (lookup X 84 v50 v52 false H) fun v => k v H) H fun v53 H =>
qG v45 true (fun k => qNot v53 fun v => k v H) H fun v54 H =>
qPick v45 v54 (.bool false) fun v55 =>
k [s0, s1, s5, s6, s7, s8, s9, s10, s11, s14, s18, s25, s37, v55, s78] H : R))
noncomputable def r30_6 (k : KT R) : KT R := fun fr H => opn 15 fr (fun s0 s1 s5 s6 s7 s8 s9 s10 s11 s14 s18 s25 s37 s42 s78 => 
(qFa 0 s5 fun v26 =>
qLd v26 H fun v27 =>
qEql X 3 v27 (.int .i64 3) fun v28 =>
k [s0, s1, s5, s6, s7, s8, s9, s10, s11, s14, s18, v28, s37, s42, s78] H : R))
noncomputable def r30_4 (k : KT R) : KT R := fun fr H => opn 15 fr (fun s0 s1 s5 s6 s7 s8 s9 s10 s11 s14 s18 s25 s37 s42 s78 => 
(qFa 0 s5 fun v19 =>
qLd v19 H fun v20 =>
qEql X 3 v20 (.int .i64 1) fun v21 =>
k [s0, s1, s5, s6, s7, s8, s9, s10, s11, s14, v21, s25, s37, s42, s78] H : R))
noncomputable def r30_3 (C : CallF) (k : KT R) : KT R := fun fr H => opn 15 fr (fun s0 s1 s5 s6 s7 s8 s9 s10 s11 s14 s18 s25 s37 s42 s78 => 
(qLdA 7 s5 H fun v16 =>
qRes (C 51 [s0, v16] H) fun v17 H =>
k [s0, s1, s5, s6, s7, s8, s9, s10, s11, v17, s18, s25, s37, s42, s78] H : R))
noncomputable def r30_2 (k : KT R) : KT R := fun fr H => opn 15 fr (fun s0 s1 s5 s6 s7 s8 s9 s10 s11 s14 s18 s25 s37 s42 s78 => 
(qIa 7 s8 s10 fun v12 =>
qLdA 7 v12 H fun v13 =>
qNew (.cells z36) .ptr H fun v5 H =>
qSt 7 v5 v13 H fun _ H =>
k [s0, s1, v5, s6, s7, s8, s9, s10, s11, s14, s18, s25, s37, s42, s78] H : R))
noncomputable def r30_1 (k : KT R) : KT R := fun fr H => opn 15 fr (fun s0 s1 s5 s6 s7 s8 s9 s10 s11 s14 s18 s25 s37 s42 s78 => 
(qLss X 3 s10 s9 fun v11 =>
k [s0, s1, s5, s6, s7, s8, s9, s10, v11, s14, s18, s25, s37, s42, s78] H : R))
noncomputable def l30_11 (C : CallF) (k1 : KT R) : KT R → KT R := fun k2 => (r30_1 (qCd (sel 8) (fun k11 => k11) (fun _ => k1) (qBl (fun k3 => (r30_2 (qBl (fun k4 => (r30_3 C (qCd (sel 9) (fun k5 => k5) (fun k5 => (r30_4 (qCd (sel 10) (fun k6 => (r30_5 C k6)) (fun k6 => (r30_6 (qCd (sel 11) (fun k7 => (r30_7 C (qCd (sel 12) (fun k8 => (r30_8 C k8)) (fun k8 => k8) k7))) (fun k7 => (r30_9 (qCd (sel 13) (fun k9 => (r30_10 (r30_11 C (r30_12 C (qCd (sel 14) (fun k10 => (r30_13 C k10)) (fun k10 => k10) k9))))) (fun k9 => k9) k7))) k6))) k5))) k4))) k3))) (r30_14 k2))))
noncomputable def r30_0 (k : KT R) : KT R := fun fr H => opn 15 fr (fun s0 s1 s5 s6 s7 s8 s9 s10 s11 s14 s18 s25 s37 s42 s78 => 
(qLenL s1 fun v9 =>
k [s0, s1, s5, s6, s7, s1, v9, (.int .i64 0), s11, s14, s18, s25, s37, s42, s78] H : R))
noncomputable def c30 (C : CallF) (l0 : List AV) (H : AH) (k : AV → AH → R) : R := opn 2 l0 (fun x0 x1 => (qFn (fun kr => (r30_0 (qBl (fun k1 => (qLoop (l30_11 C k1))) kr)))
(fun fr H => k (.tup []) H) [x0, x1, undef, undef, undef, undef, undef, undef, undef, undef, undef, undef, undef, undef, undef] H : R))
/- refectory/refectoryref08.Digits -/
noncomputable def r31_8 (C : CallF) (k : KT R) : KT R := fun fr H => opn 6 fr (fun s0 s2 s3 s4 s18 s28 => 
(qQuo X 3 s0 (.int .i64 10) fun v36 =>
qRem X 3 s0 (.int .i64 10) fun v39 =>
qRem X 3 s0 (.int .i64 10) fun v41 =>
qAdd X 3 v41 (.int .i64 1) fun v42 =>
qSlc Try.t9.desc 0 (.str [48,49,50,51,52,53,54,55,56,57]) (some v39) (some v42) none fun v43 =>
qRes (C 31 [v36] H) fun v37 H =>
qAdd X 9 v37 v43 fun v44 =>
k [s0, v44, s3, s4, s18, s28] H : R))
noncomputable def r31_3 (C : CallF) (k : KT R) : KT R := fun fr H => opn 6 fr (fun s0 s2 s3 s4 s18 s28 => 
(qQuo X 3 s0 (.int .i64 10) fun v11 =>
qAdd X 3 s3 (.int .i64 1) fun v15 =>
qSlc Try.t9.desc 0 (.str [48,49,50,51,52,53,54,55,56,57]) (some s3) (some v15) none fun v16 =>
qRes (C 31 [v11] H) fun v12 H =>
qAdd X 9 v12 v16 fun v17 =>
k [s0, v17, s3, s4, s18, s28] H : R))
noncomputable def r31_2 (k : KT R) : KT R := fun fr H => opn 6 fr (fun s0 s2 s3 s4 s18 s28 => 
(qRem X 3 s0 (.int .i64 10) fun v8 =>
qUn .neg v8 fun v9 =>
k [s0, s2, v9, s4, s18, s28] H : R))
noncomputable def r31_5 (k : KT R) : KT R := fun fr H => opn 6 fr (fun s0 s2 s3 s4 s18 s28 => 
(qUn .neg s0 fun v22 =>
qUn .neg s0 fun v24 =>
qAdd X 3 v24 (.int .i64 1) fun v25 =>
qSlc Try.t9.desc 0 (.str [48,49,50,51,52,53,54,55,56,57]) (some v22) (some v25) none fun v26 =>
qAdd X 9 (.str [45]) v26 fun v27 =>
k [s0, v27, s3, s4, s18, s28] H : R))
noncomputable def r31_7 (k : KT R) : KT R := fun fr H => opn 6 fr (fun s0 s2 s3 s4 s18 s28 => 
(qAdd X 3 s0 (.int .i64 1) fun v33 =>
qSlc Try.t9.desc 0 (.str [48,49,50,51,52,53,54,55,56,57]) (some s0) (some v33) none fun v34 =>
k [s0, v34, s3, s4, s18, s28] H : R))
noncomputable def r31_6 (k : KT R) : KT R := fun fr H => opn 6 fr (fun s0 s2 s3 s4 s18 s28 => 
(qLss X 3 s0 (.int .i64 10) fun v30 =>
k [s0, s2, s3, s4, s18, v30] H : R))
noncomputable def r31_4 (k : KT R) : KT R := fun fr H => opn 6 fr (fun s0 s2 s3 s4 s18 s28 => 
(qLss X 3 s0 (.int .i64 0) fun v20 =>
k [s0, s2, s3, s4, v20, s28] H : R))
noncomputable def r31_1 (k : KT R) : KT R := fun fr H => opn 6 fr (fun s0 s2 s3 s4 s18 s28 => 
(qLeq X 3 s0 (.int .i64 (-10)) fun v6 =>
k [s0, s2, s3, v6, s18, s28] H : R))
noncomputable def r31_0 (k : KT R) : KT R := fun fr H => opn 6 fr (fun s0 s2 s3 s4 s18 s28 => 
(k [s0, (.str []), s3, s4, s18, s28] H : R))
noncomputable def c31 (C : CallF) (l0 : List AV) (H : AH) (k : AV → AH → R) : R := opn 1 l0 (fun x0 => (qFn (fun kr => (r31_0 (qBl (fun k1 => (r31_1 (qCd (sel 3) (fun _ => (r31_2 (r31_3 C kr))) (fun k2 => (r31_4 (qCd (sel 4) (fun _ => (r31_5 kr)) (fun k3 => (r31_6 (qCd (sel 5) (fun _ => (r31_7 kr)) (fun k4 => k4) k3))) k2))) k1))) (r31_8 C kr))))
(fun fr H => k (sel 1 fr) H) [x0, undef, undef, undef, undef, undef] H : R))
/- refectory/refectoryref04.All -/
noncomputable def r32_21 (k : KT R) : KT R := fun fr H => opn 16 fr (fun s0 s2 s3 s4 s5 s6 s7 s8 s9 s12 s16 s19 s28 s35 s43 s60 => 
(k [s0, s5, (.int .i64 0), (.int .i64 0), s5, s6, s7, s8, s9, s12, s16, s19, s28, s35, s43, s60] H : R))
noncomputable def r32_17 (k : KT R) : KT R := fun fr H => opn 16 fr (fun s0 s2 s3 s4 s5 s6 s7 s8 s9 s12 s16 s19 s28 s35 s43 s60 => 
(qAdd X 3 s6 (.int .i64 1) fun v42 =>
k [s0, s2, s3, s4, s5, v42, s7, s8, s9, s12, s16, s19, s28, s35, s43, s60] H : R))
noncomputable def r32_20 (k : KT R) : KT R := fun fr H => opn 16 fr (fun s0 s2 s3 s4 s5 s6 s7 s8 s9 s12 s16 s19 s28 s35 s43 s60 => 
(qAdd X 3 s6 (.int .i64 1) fun v62 =>
k [s0, s2, s3, s4, s5, v62, s7, s8, s9, s12, s16, s19, s28, s35, s43, s60] H : R))
noncomputable def r32_19 (k : KT R) : KT R := fun fr H => opn 16 fr (fun s0 s2 s3 s4 s5 s6 s7 s8 s9 s12 s16 s19 s28 s35 s43 s60 => 
(qLenS s0 fun v47 =>
qLss X 3 s6 v47 fun v48 =>
qG v48 true (fun k => k s0 H) H fun v50 H =>
qG v48 true (fun k => k s6 H) H fun v51 H =>
qG v48 true (fun k => qIx v50 v51 fun v => k v H) H fun v52 H =>
qG v48 true (fun k => qNeq X 5 v52 (.int .u8 10) fun v => k v H) H fun v53 H =>
qPick v48 v53 (.bool false) fun v54 =>
qG v54 true (fun k => k s0 H) H fun v56 H =>
qG v54 true (fun k => k s6 H) H fun v57 H =>
qG v54 true (fun k => qIx v56 v57 fun v => k v H) H fun v58 H =>
qG v54 true (fun k => qNeq X 5 v58 (.int .u8 13) fun v => k v H) H fun v59 H =>
qPick v54 v59 (.bool false) fun v60 =>
k [s0, s2, s3, s4, s5, s6, s7, s8, s9, s12, s16, s19, s28, s35, s43, v60] H : R))
noncomputable def l32_10 (k7 : KT R) : KT R → KT R := fun k8 => (r32_19 (qCd (sel 15) (fun k10 => k10) (fun _ => k7) (qBl (fun k9 => (r32_20 k9)) k8)))
noncomputable def r32_11 (k : KT R) : KT R := fun fr H => opn 16 fr (fun s0 s2 s3 s4 s5 s6 s7 s8 s9 s12 s16 s19 s28 s35 s43 s60 => 
(k [s0, s2, s3, s4, s5, s8, s7, s8, s9, s12, s16, s19, s28, s35, s43, s60] H : R))
noncomputable def r32_10 (k : KT R) : KT R := fun fr H => opn 16 fr (fun s0 s2 s3 s4 s5 s6 s7 s8 s9 s12 s16 s19 s28 s35 s43 s60 => 
(qLdA 3 s7 H fun v31 =>
qRows z97 1 [(0, v31)] fun v32 =>
qApp 3 32 s5 v32 false H fun v33 H =>
k [s0, s2, s3, s4, v33, s6, s7, s8, s9, s12, s16, s19, s28, s35, s43, s60] H : R))
noncomputable def r32_9 (k : KT R) : KT R := fun fr H => opn 16 fr (fun s0 s2 s3 s4 s5 s6 s7 s8 s9 s12 s16 s19 s28 s35 s43 s60 => 
(k [s0, (.sl [] .nil), s6, (.int .i64 2), s5, s6, s7, s8, s9, s12, s16, s19, s28, s35, s43, s60] H : R))
noncomputable def r32_8 (k : KT R) : KT R := fun fr H => opn 16 fr (fun s0 s2 s3 s4 s5 s6 s7 s8 s9 s12 s16 s19 s28 s35 s43 s60 => 
(qNot s9 fun v28 =>
k [s0, s2, s3, s4, s5, s6, s7, s8, s9, s12, s16, s19, v28, s35, s43, s60] H : R))
noncomputable def r32_7 (C : CallF) (k : KT R) : KT R := fun fr H => opn 16 fr (fun s0 s2 s3 s4 s5 s6 s7 s8 s9 s12 s16 s19 s28 s35 s43 s60 => 
(qRes (C 54 [s0, s6] H) fun v23 H =>
qExt v23 0 fun v24 =>
qExt v23 1 fun v25 =>
qExt v23 2 fun v26 =>
qNew (.cells z97) .ptr H fun v7 H =>
qSt 3 v7 v24 H fun _ H =>
k [s0, s2, s3, s4, s5, s6, v7, v25, v26, s12, s16, s19, s28, s35, s43, s60] H : R))
noncomputable def r32_18 (k : KT R) : KT R := fun fr H => opn 16 fr (fun s0 s2 s3 s4 s5 s6 s7 s8 s9 s12 s16 s19 s28 s35 s43 s60 => 
(qEql X 5 s19 (.int .u8 35) fun v44 =>
k [s0, s2, s3, s4, s5, s6, s7, s8, s9, s12, s16, s19, s28, s35, v44, s60] H : R))
noncomputable def r32_16 (k : KT R) : KT R := fun fr H => opn 16 fr (fun s0 s2 s3 s4 s5 s6 s7 s8 s9 s12 s16 s19 s28 s35 s43 s60 => 
(qEql X 5 s19 (.int .u8 44) fun v40 =>
k [s0, s2, s3, s4, s5, s6, s7, s8, s9, s12, s16, s19, s28, v40, s43, s60] H : R))
noncomputable def r32_15 (k : KT R) : KT R := fun fr H => opn 16 fr (fun s0 s2 s3 s4 s5 s6 s7 s8 s9 s12 s16 s19 s28 s35 s43 s60 => 
(qEql X 5 s19 (.int .u8 13) fun v39 =>
k [s0, s2, s3, s4, s5, s6, s7, s8, s9, s12, s16, s19, s28, v39, s43, s60] H : R))
noncomputable def r32_14 (k : KT R) : KT R := fun fr H => opn 16 fr (fun s0 s2 s3 s4 s5 s6 s7 s8 s9 s12 s16 s19 s28 s35 s43 s60 => 
(qEql X 5 s19 (.int .u8 10) fun v38 =>
k [s0, s2, s3, s4, s5, s6, s7, s8, s9, s12, s16, s19, s28, v38, s43, s60] H : R))
noncomputable def r32_13 (k : KT R) : KT R := fun fr H => opn 16 fr (fun s0 s2 s3 s4 s5 s6 s7 s8 s9 s12 s16 s19 s28 s35 s43 s60 => 
(qEql X 5 s19 (.int .u8 9) fun v37 =>
k [s0, s2, s3, s4, s5, s6, s7, s8, s9, s12, s16, s19, s28, v37, s43, s60] H : R))
noncomputable def r32_12 (k : KT R) : KT R := fun fr H => opn 16 fr (fun s0 s2 s3 s4 s5 s6 s7 s8 s9 s12 s16 s19 s28 s35 s43 s60 => 
(qEql X 5 s19 (.int .u8 32) fun v36 =>
k [s0, s2, s3, s4, s5, s6, s7, s8, s9, s12, s16, s19, s28, v36, s43, s60] H : R))
noncomputable def r32_6 (k : KT R) : KT R := fun fr H => opn 16 fr (fun s0 s2 s3 s4 s5 s6 s7 s8 s9 s12 s16 s19 s28 s35 s43 s60 => 
(qIx s0 s6 fun v19 =>
k [s0, s2, s3, s4, s5, s6, s7, s8, s9, s12, s16, v19, s28, s35, s43, s60] H : R))
noncomputable def r32_5 (k : KT R) : KT R := fun fr H => opn 16 fr (fun s0 s2 s3 s4 s5 s6 s7 s8 s9 s12 s16 s19 s28 s35 s43 s60 => 
(qLenS s0 fun v15 =>
qLss X 3 s6 v15 fun v16 =>
k [s0, s2, s3, s4, s5, s6, s7, s8, s9, s12, v16, s19, s28, s35, s43, s60] H : R))
noncomputable def l32_16 (C : CallF) (k1 : KT R) (kr : KT R) : KT R → KT R := fun k2 => (r32_5 (qCd (sel 10) (fun k16 => k16) (fun _ => k1) (qBl (fun k3 => (r32_6 (qBl (fun k4 => (r32_12 (qCd (sel 13) (fun k12 => k12) (fun k12 => (r32_13 (qCd (sel 13) (fun k13 => k13) (fun k13 => (r32_14 (qCd (sel 13) (fun k14 => k14) (fun k14 => (r32_15 (qCd (sel 13) (fun k15 => k15) (fun k15 => (r32_16 k15)) k14))) k13))) k12))) (qCd (sel 13) (fun k5 => (r32_17 k5)) (fun k5 => (r32_18 (qCd (sel 14) (fun k6 => (qBl (fun k7 => (qLoop (l32_10 k7))) k6)) (fun k6 => (r32_7 C (r32_8 (qCd (sel 12) (fun _ => (r32_9 kr)) (fun k11 => k11) (r32_10 (r32_11 k6)))))) k5))) k4)))) k3))) k2)))
noncomputable def r32_4 (k : KT R) : KT R := fun fr H => opn 16 fr (fun s0 s2 s3 s4 s5 s6 s7 s8 s9 s12 s16 s19 s28 s35 s43 s60 => 
(k [s0, s2, s3, s4, s5, (.int .i64 0), s7, s8, s9, s12, s16, s19, s28, s35, s43, s60] H : R))
noncomputable def r32_3 (k : KT R) : KT R := fun fr H => opn 16 fr (fun s0 s2 s3 s4 s5 s6 s7 s8 s9 s12 s16 s19 s28 s35 s43 s60 => 
(k [s0, s2, s3, s4, (.sl [] .nil), s6, s7, s8, s9, s12, s16, s19, s28, s35, s43, s60] H : R))
noncomputable def r32_2 (k : KT R) : KT R := fun fr H => opn 16 fr (fun s0 s2 s3 s4 s5 s6 s7 s8 s9 s12 s16 s19 s28 s35 s43 s60 => 
(k [s0, (.sl [] .nil), (.int .i64 0), (.int .i64 3), s5, s6, s7, s8, s9, s12, s16, s19, s28, s35, s43, s60] H : R))
noncomputable def r32_1 (k : KT R) : KT R := fun fr H => opn 16 fr (fun s0 s2 s3 s4 s5 s6 s7 s8 s9 s12 s16 s19 s28 s35 s43 s60 => 
(qLenS s0 fun v11 =>
qGtr X 3 v11 (.int .i64 8000) fun v12 =>
k [s0, s2, s3, s4, s5, s6, s7, s8, s9, v12, s16, s19, s28, s35, s43, s60] H : R))
noncomputable def r32_0 (k : KT R) : KT R := fun fr H => opn 16 fr (fun s0 s2 s3 s4 s5 s6 s7 s8 s9 s12 s16 s19 s28 s35 s43 s60 => 
(k [s0, (.sl [] .nil), (.int .i64 0), (.int .i64 0), s5, s6, s7, s8, s9, s12, s16, s19, s28, s35, s43, s60] H : R))
noncomputable def c32 (C : CallF) (l0 : List AV) (H : AH) (k : AV → AH → R) : R := opn 1 l0 (fun x0 => (qFn (fun kr => (r32_0 (r32_1 (qCd (sel 9) (fun _ => (r32_2 kr)) (fun k17 => k17) (r32_3 (r32_4 (qBl (fun k1 => (qLoop (l32_16 C k1 kr))) (r32_21 kr))))))))
(fun fr H => k (.tup [(sel 1 fr), (sel 2 fr), (sel 3 fr)]) H) [x0, undef, undef, undef, undef, undef, undef, undef, undef, undef, undef, undef, undef, undef, undef, undef] H : R))
/- refectory/refectoryref06.def -/
noncomputable def r33_2 (C : CallF) (k : KT R) : KT R := fun fr H => opn 10 fr (fun s0 s1 s4 s5 s8 s23 s36 s59 s63 s71 => 
(qNc s1 fun v13 =>
qFa 0 v13 fun v14 =>
qLd v14 H fun v15 =>
qRes (C 56 [s0, (.int .i64 1)] H) fun v17 H =>
qLd v14 H fun w => qSame v15 w (qBld z65 [(4, 1, v17)] fun v18 =>
qRows z65 1 [(0, v18)] fun v19 =>
qApp 5 96 v15 v19 false H fun v20 H =>
qNc s1 fun v21 =>
qFa 0 v21 fun v22 =>
qSt 1 v22 v20 H fun _ H =>
k [s0, s1, s4, s5, s8, s23, s36, s59, s63, s71] H) : R))
noncomputable def r33_10 (k : KT R) : KT R := fun fr H => opn 10 fr (fun s0 s1 s4 s5 s8 s23 s36 s59 s63 s71 => 
(qNc s1 fun v51 =>
qFa 0 v51 fun v52 =>
qLd v52 H fun v53 =>
qLdA 5 s4 H fun v54 =>
qRows z65 1 [(0, v54)] fun v55 =>
qApp 5 96 v53 v55 false H fun v56 H =>
qNc s1 fun v57 =>
qFa 0 v57 fun v58 =>
qSt 1 v58 v56 H fun _ H =>
k [s0, s1, s4, s5, s8, s23, s36, s59, s63, s71] H : R))
noncomputable def r33_9 (C : CallF) (k : KT R) : KT R := fun fr H => opn 10 fr (fun s0 s1 s4 s5 s8 s23 s36 s59 s63 s71 => 
(qRes (C 56 [s0, (.int .i64 1)] H) fun v47 H =>
qFa 4 s4 fun v48 =>
qSt 1 v48 v47 H fun _ H =>
k [s0, s1, s4, s5, s8, s23, s36, s59, s63, s71] H : R))
noncomputable def r33_8 (C : CallF) (k : KT R) : KT R := fun fr H => opn 10 fr (fun s0 s1 s4 s5 s8 s23 s36 s59 s63 s71 => 
(qRes (C 60 [s0] H) fun v44 H =>
qFa 3 s4 fun v45 =>
qSt 1 v45 v44 H fun _ H =>
k [s0, s1, s4, s5, s8, s23, s36, s59, s63, s71] H : R))
noncomputable def r33_7 (C : CallF) (k : KT R) : KT R := fun fr H => opn 10 fr (fun s0 s1 s4 s5 s8 s23 s36 s59 s63 s71 => 
(qRes (C 59 [s0] H) fun v41 H =>
qFa 2 s4 fun v42 =>
qSt 1 v42 v41 H fun _ H =>
k [s0, s1, s4, s5, s8, s23, s36, s59, s63, s71] H : R))
noncomputable def r33_6 (C : CallF) (k : KT R) : KT R := fun fr H => opn 10 fr (fun s0 s1 s4 s5 s8 s23 s36 s59 s63 s71 => 
(qRes (C 57 [s0] H) fun v38 H =>
qFa 1 s4 fun v39 =>
qSt 1 v39 v38 H fun _ H =>
k [s0, s1, s4, s5, s8, s23, s36, s59, s63, s71] H : R))
noncomputable def r33_5 (C : CallF) (k : KT R) : KT R := fun fr H => opn 10 fr (fun s0 s1 s4 s5 s8 s23 s36 s59 s63 s71 => 
(qRes (C 58 [s0] H) fun v35 H =>
qEql X 3 v35 (.int .i64 1) fun v36 =>
k [s0, s1, s4, s5, s8, s23, v36, s59, s63, s71] H : R))
noncomputable def r33_4 (C : CallF) (k : KT R) : KT R := fun fr H => opn 10 fr (fun s0 s1 s4 s5 s8 s23 s36 s59 s63 s71 => 
(qRes (C 57 [s0] H) fun v31 H =>
qEql X 9 v31 (.str [109,117,116,97,116,105,111,110]) fun v32 =>
qBld z65 [(0, 1, v32)] fun v33 =>
qNew (.cells z65) .ptr H fun v4 H =>
qSt 5 v4 v33 H fun _ H =>
k [s0, s1, v4, s5, s8, s23, s36, s59, s63, s71] H : R))
noncomputable def r33_20 (k : KT R) : KT R := fun fr H => opn 10 fr (fun s0 s1 s4 s5 s8 s23 s36 s59 s63 s71 => 
(qNc s1 fun v85 =>
qFa 1 v85 fun v86 =>
qLd v86 H fun v87 =>
qLdA 4 s5 H fun v88 =>
qRows z67 1 [(0, v88)] fun v89 =>
qApp 4 80 v87 v89 false H fun v90 H =>
qNc s1 fun v91 =>
qFa 1 v91 fun v92 =>
qSt 1 v92 v90 H fun _ H =>
k [s0, s1, s4, s5, s8, s23, s36, s59, s63, s71] H : R))
noncomputable def r33_19 (C : CallF) (k : KT R) : KT R := fun fr H => opn 10 fr (fun s0 s1 s4 s5 s8 s23 s36 s59 s63 s71 => 
(qRes (C 56 [s0, (.int .i64 1)] H) fun v81 H =>
qFa 3 s5 fun v82 =>
qSt 1 v82 v81 H fun _ H =>
k [s0, s1, s4, s5, s8, s23, s36, s59, s63, s71] H : R))
noncomputable def r33_18 (C : CallF) (k : KT R) : KT R := fun fr H => opn 10 fr (fun s0 s1 s4 s5 s8 s23 s36 s59 s63 s71 => 
(qRes (C 60 [s0] H) fun v78 H =>
qFa 2 s5 fun v79 =>
qSt 1 v79 v78 H fun _ H =>
k [s0, s1, s4, s5, s8, s23, s36, s59, s63, s71] H : R))
noncomputable def r33_17 (C : CallF) (k : KT R) : KT R := fun fr H => opn 10 fr (fun s0 s1 s4 s5 s8 s23 s36 s59 s63 s71 => 
(qRes (C 57 [s0] H) fun v75 H =>
qFa 1 s5 fun v76 =>
qSt 1 v76 v75 H fun _ H =>
k [s0, s1, s4, s5, s8, s23, s36, s59, s63, s71] H : R))
noncomputable def r33_16 (C : CallF) (k : KT R) : KT R := fun fr H => opn 10 fr (fun s0 s1 s4 s5 s8 s23 s36 s59 s63 s71 => 
(qRes (C 61 [s0] H) fun v73 H =>
k [s0, s1, s4, s5, s8, s23, s36, s59, s63, s71] H : R))
noncomputable def r33_15 (C : CallF) (k : KT R) : KT R := fun fr H => opn 10 fr (fun s0 s1 s4 s5 s8 s23 s36 s59 s63 s71 => 
(qRes (C 48 [s0, (.int .i64 1), (.str [111,110])] H) fun v70 H =>
qNot v70 fun v71 =>
k [s0, s1, s4, s5, s8, s23, s36, s59, s63, v71] H : R))
noncomputable def r33_14 (C : CallF) (k : KT R) : KT R := fun fr H => opn 10 fr (fun s0 s1 s4 s5 s8 s23 s36 s59 s63 s71 => 
(qRes (C 57 [s0] H) fun v67 H =>
qBld z67 [(0, 1, v67)] fun v68 =>
qNew (.cells z67) .ptr H fun v5 H =>
qSt 4 v5 v68 H fun _ H =>
k [s0, s1, s4, v5, s8, s23, s36, s59, s63, s71] H : R))
noncomputable def r33_13 (C : CallF) (k : KT R) : KT R := fun fr H => opn 10 fr (fun s0 s1 s4 s5 s8 s23 s36 s59 s63 s71 => 
(qRes (C 61 [s0] H) fun v65 H =>
k [s0, s1, s4, s5, s8, s23, s36, s59, s63, s71] H : R))
noncomputable def r33_12 (C : CallF) (k : KT R) : KT R := fun fr H => opn 10 fr (fun s0 s1 s4 s5 s8 s23 s36 s59 s63 s71 => 
(qRes (C 55 [s0, (.int .i64 1), (.str [111,110])] H) fun v63 H =>
k [s0, s1, s4, s5, s8, s23, s36, s59, v63, s71] H : R))
noncomputable def r33_0 (C : CallF) (k : KT R) : KT R := fun fr H => opn 10 fr (fun s0 s1 s4 s5 s8 s23 s36 s59 s63 s71 => 
(qRes (C 61 [s0] H) fun v7 H =>
k [s0, s1, s4, s5, s8, s23, s36, s59, s63, s71] H : R))
noncomputable def r33_11 (C : CallF) (k : KT R) : KT R := fun fr H => opn 10 fr (fun s0 s1 s4 s5 s8 s23 s36 s59 s63 s71 => 
(qRes (C 48 [s0, (.int .i64 1), (.str [102,114,97,103,109,101,110,116])] H) fun v61 H =>
k [s0, s1, s4, s5, s8, s23, s36, v61, s63, s71] H : R))
noncomputable def r33_3 (C : CallF) (k : KT R) : KT R := fun fr H => opn 10 fr (fun s0 s1 s4 s5 s8 s23 s36 s59 s63 s71 => 
(qRes (C 55 [s0, (.int .i64 1), (.str [113,117,101,114,121])] H) fun v25 H =>
qG v25 false (fun k => k s0 H) H fun v27 H =>
qG v25 false (fun k => qRes (C 55 [v27, (.int .i64 1), (.str [109,117,116,97,116,105,111,110])] H) k) H fun v28 H =>
qPick v25 (.bool true) v28 fun v29 =>
k [s0, s1, s4, s5, s8, v29, s36, s59, s63, s71] H : R))
noncomputable def r33_1 (C : CallF) (k : KT R) : KT R := fun fr H => opn 10 fr (fun s0 s1 s4 s5 s8 s23 s36 s59 s63 s71 => 
(qRes (C 55 [s0, (.int .i64 5), (.str [123])] H) fun v10 H =>
k [s0, s1, s4, s5, v10, s23, s36, s59, s63, s71] H : R))
noncomputable def c33 (C : CallF) (l0 : List AV) (H : AH) (k : AV → AH → R) : R := opn 2 l0 (fun x0 x1 => (qFn (fun kr => (qBl (fun k1 => (r33_1 C (qCd (sel 4) (fun k2 => (r33_2 C k2)) (fun k2 => (r33_3 C (qCd (sel 5) (fun k3 => (r33_4 C (r33_5 C (qCd (sel 6) (fun k4 => (r33_6 C k4)) (fun k4 => k4) (r33_7 C (r33_8 C (r33_9 C (r33_10 k3)))))))) (fun k3 => (r33_11 C (qCd (sel 7) (fun k5 => (r33_12 C (qCd (sel 8) (fun k7 => (r33_13 C k7)) (fun k7 => k7) (r33_14 C (r33_15 C (qCd (sel 9) (fun k6 => (r33_16 C k6)) (fun k6 => k6) (r33_17 C (r33_18 C (r33_19 C (r33_20 k5)))))))))) (fun k5 => (r33_0 C k5)) k3))) k2))) k1))) kr))
(fun fr H => k (.tup []) H) [x0, x1, undef, undef, undef, undef, undef, undef, undef, undef] H : R))
/- refectory/frags.twice -/
noncomputable def r34_9 (k : KT R) : KT R := fun fr H => opn 10 fr (fun s0 s1 s2 s3 s5 s8 s9 s10 s11 s17 => 
(k [s0, s1, (.bool false), s3, s5, s8, s9, s10, s11, s17] H : R))
noncomputable def r34_8 (k : KT R) : KT R := fun fr H => opn 10 fr (fun s0 s1 s2 s3 s5 s8 s9 s10 s11 s17 => 
(qAdd X 3 s10 (.int .i64 1) fun v21 =>
k [s0, s1, s2, s3, s5, s8, s9, v21, s11, s17] H : R))
noncomputable def r34_7 (k : KT R) : KT R := fun fr H => opn 10 fr (fun s0 s1 s2 s3 s5 s8 s9 s10 s11 s17 => 
(qFa 0 s5 fun v19 =>
qLd v19 H fun v20 =>
qMset X 84 s3 v20 (.bool true) H fun _ H =>
k [s0, s1, s2, s3, s5, s8, s9, s10, s11, s17] H : R))
noncomputable def r34_6 (k : KT R) : KT R := fun fr H => opn 10 fr (fun s0 s1 s2 s3 s5 s8 s9 s10 s11 s17 => 
(k [s0, s1, (.bool true), s3, s5, s8, s9, s10, s11, s17] H : R))
noncomputable def r34_5 (k : KT R) : KT R := fun fr H => opn 10 fr (fun s0 s1 s2 s3 s5 s8 s9 s10 s11 s17 => 
(qFa 0 s5 fun v15 =>
qLd v15 H fun v16 =>
qO (lookup X 84 s3 v16 false H) fun v17 =>
k [s0, s1, s2, s3, s5, s8, s9, s10, s11, v17] H : R))
noncomputable def r34_4 (k : KT R) : KT R := fun fr H => opn 10 fr (fun s0 s1 s2 s3 s5 s8 s9 s10 s11 s17 => 
(qIa 4 s8 s10 fun v12 =>
qLdA 4 v12 H fun v13 =>
qNew (.cells z67) .ptr H fun v5 H =>
qSt 4 v5 v13 H fun _ H =>
k [s0, s1, s2, s3, v5, s8, s9, s10, s11, s17] H : R))
noncomputable def r34_3 (k : KT R) : KT R := fun fr H => opn 10 fr (fun s0 s1 s2 s3 s5 s8 s9 s10 s11 s17 => 
(qLss X 3 s10 s9 fun v11 =>
k [s0, s1, s2, s3, s5, s8, s9, s10, v11, s17] H : R))
noncomputable def l34_5 (k1 : KT R) (kr : KT R) : KT R → KT R := fun k2 => (r34_3 (qCd (sel 8) (fun k5 => k5) (fun _ => k1) (qBl (fun k3 => (r34_4 (r34_5 (qCd (sel 9) (fun _ => (r34_6 kr)) (fun k4 => k4) (r34_7 k3))))) (r34_8 k2))))
noncomputable def r34_2 (k : KT R) : KT R := fun fr H => opn 10 fr (fun s0 s1 s2 s3 s5 s8 s9 s10 s11 s17 => 
(qFa 1 s1 fun v7 =>
qLd v7 H fun v8 =>
qLenL v8 fun v9 =>
k [s0, s1, s2, s3, s5, v8, v9, (.int .i64 0), s11, s17] H : R))
noncomputable def r34_1 (k : KT R) : KT R := fun fr H => opn 10 fr (fun s0 s1 s2 s3 s5 s8 s9 s10 s11 s17 => 
(qNew (.map []) .map H fun v6 H =>
k [s0, s1, s2, v6, s5, s8, s9, s10, s11, s17] H : R))
noncomputable def r34_0 (k : KT R) : KT R := fun fr H => opn 10 fr (fun s0 s1 s2 s3 s5 s8 s9 s10 s11 s17 => 
(qBox s0 H fun v1 H =>
k [s0, v1, (.bool false), s3, s5, s8, s9, s10, s11, s17] H : R))
noncomputable def c34 (C : CallF) (l0 : List AV) (H : AH) (k : AV → AH → R) : R := opn 1 l0 (fun x0 => (qFn (fun kr => (r34_0 (r34_1 (r34_2 (qBl (fun k1 => (qLoop (l34_5 k1 kr))) (r34_9 kr))))))
(fun fr H => k (sel 2 fr) H) [x0, undef, undef, undef, undef, undef, undef, undef, undef, undef] H : R))
/- refectory/frags.typed -/
noncomputable def r35_2 (C : CallF) (k : KT R) : KT R := fun fr H => opn 6 fr (fun s0 s1 s2 s3 s4 s5 => 
(qFa 0 s3 fun v7 =>
qLd v7 H fun v8 =>
qRes (C 64 [v8, (.fn (.func 65) [] [s5])] H) fun v10 H =>
qG v10 false (fun k => qFa 1 s3 fun v => k v H) H fun v12 H =>
qG v10 false (fun k => qLd v12 H fun v => k v H) H fun v13 H =>
qG v10 false (fun k => k (.fn (.func 68) [] [s2, s5]) H) H fun v14 H =>
qG v10 false (fun k => qRes (C 67 [v13, v14] H) k) H fun v15 H =>
qPick v10 (.bool true) v15 fun v16 =>
k [s0, s1, s2, s3, v16, s5] H : R))
noncomputable def r35_1 (k : KT R) : KT R := fun fr H => opn 6 fr (fun s0 s1 s2 s3 s4 s5 => 
(qNew (.cells z133) .ptr H fun v5 H =>
qSt 1 v5 (.fn (.func 62) [] [s2]) H fun _ H =>
k [s0, s1, s2, s3, s4, v5] H : R))
noncomputable def r35_0 (k : KT R) : KT R := fun fr H => opn 6 fr (fun s0 s1 s2 s3 s4 s5 => 
(qBox s0 H fun v2 H =>
qBox s1 H fun v3 H =>
k [s0, s1, v2, v3, (.bool false), s5] H : R))
noncomputable def c35 (C : CallF) (l0 : List AV) (H : AH) (k : AV → AH → R) : R := opn 2 l0 (fun x0 x1 => (qFn (fun kr => (r35_0 (r35_1 (r35_2 C kr))))
(fun fr H => k (sel 4 fr) H) [x0, x1, undef, undef, undef, undef] H : R))
/- refectory/frags.wrong -/
noncomputable def r36_16 (C : CallF) (k : KT R) : KT R := fun fr H => opn 19 fr (fun s0 s1 s2 s3 s4 s5 s7 s8 s10 s13 s14 s15 s16 s22 s30 s34 s35 s36 s37 => 
(qFa 1 s3 fun v44 =>
qLd v44 H fun v45 =>
qRes (C 67 [v45, (.fn (.func 70) [] [s5, s3, s2])] H) fun v47 H =>
k [s0, s1, s2, s3, v47, s5, s7, s8, s10, s13, s14, s15, s16, s22, s30, s34, s35, s36, s37] H : R))
noncomputable def r36_15 (k : KT R) : KT R := fun fr H => opn 19 fr (fun s0 s1 s2 s3 s4 s5 s7 s8 s10 s13 s14 s15 s16 s22 s30 s34 s35 s36 s37 => 
(qAdd X 3 s15 (.int .i64 1) fun v43 =>
k [s0, s1, s2, s3, s4, s5, s7, s8, s10, s13, s14, v43, s16, s22, s30, s34, s35, s36, s37] H : R))
noncomputable def r36_14 (k : KT R) : KT R := fun fr H => opn 19 fr (fun s0 s1 s2 s3 s4 s5 s7 s8 s10 s13 s14 s15 s16 s22 s30 s34 s35 s36 s37 => 
(qAdd X 3 s36 (.int .i64 1) fun v42 =>
k [s0, s1, s2, s3, s4, s5, s7, s8, s10, s13, s14, s15, s16, s22, s30, s34, s35, v42, s37] H : R))
noncomputable def r36_13 (k : KT R) : KT R := fun fr H => opn 19 fr (fun s0 s1 s2 s3 s4 s5 s7 s8 s10 s13 s14 s15 s16 s22 s30 s34 s35 s36 s37 => 
(qLd s5 H fun v40 =>
qMset X 84 v40 s10 (.bool true) H fun _ H =>
k [s0, s1, s2, s3, s4, s5, s7, s8, s10, s13, s14, s15, s16, s22, s30, s34, s35, s36, s37] H : R))
noncomputable def r36_12 (k : KT R) : KT R := fun fr H => opn 19 fr (fun s0 s1 s2 s3 s4 s5 s7 s8 s10 s13 s14 s15 s16 s22 s30 s34 s35 s36 s37 => 
(qIa 1 s34 s36 fun v38 =>
qLd v38 H fun v39 =>
k [s0, s1, s2, s3, s4, s5, s7, s8, v39, s13, s14, s15, s16, s22, s30, s34, s35, s36, s37] H : R))
noncomputable def r36_11 (k : KT R) : KT R := fun fr H => opn 19 fr (fun s0 s1 s2 s3 s4 s5 s7 s8 s10 s13 s14 s15 s16 s22 s30 s34 s35 s36 s37 => 
(qLss X 3 s36 s35 fun v37 =>
k [s0, s1, s2, s3, s4, s5, s7, s8, s10, s13, s14, s15, s16, s22, s30, s34, s35, s36, v37] H : R))
noncomputable def l36_7 (k4 : KT R) : KT R → KT R := fun k5 => (r36_11 (qCd (sel 18) (fun k7 => k7) (fun _ => k4) (qBl (fun k6 => (r36_12 (r36_13 k6))) (r36_14 k5))))
noncomputable def r36_10 (C : CallF) (k : KT R) : KT R := fun fr H => opn 19 fr (fun s0 s1 s2 s3 s4 s5 s7 s8 s10 s13 s14 s15 s16 s22 s30 s34 s35 s36 s37 => 
(qLdA 2 s3 H fun v31 =>
qFa 4 s7 fun v32 =>
qLd v32 H fun v33 =>
qRes (C 22 [v31, v33] H) fun v34 H =>
qLenL v34 fun v35 =>
k [s0, s1, s2, s3, s4, s5, s7, s8, s10, s13, s14, s15, s16, s22, s30, v34, v35, (.int .i64 0), s37] H : R))
noncomputable def r36_9 (k : KT R) : KT R := fun fr H => opn 19 fr (fun s0 s1 s2 s3 s4 s5 s7 s8 s10 s13 s14 s15 s16 s22 s30 s34 s35 s36 s37 => 
(k [s0, s1, s2, s3, (.bool true), s5, s7, s8, s10, s13, s14, s15, s16, s22, s30, s34, s35, s36, s37] H : R))
noncomputable def r36_8 (C : CallF) (k : KT R) : KT R := fun fr H => opn 19 fr (fun s0 s1 s2 s3 s4 s5 s7 s8 s10 s13 s14 s15 s16 s22 s30 s34 s35 s36 s37 => 
(qLdA 3 s2 H fun v25 =>
qLdA 2 s3 H fun v26 =>
qFa 4 s7 fun v27 =>
qLd v27 H fun v28 =>
qRes (C 69 [v25, v26, v28, s8] H) fun v30 H =>
k [s0, s1, s2, s3, s4, s5, s7, s8, s10, s13, s14, s15, s16, s22, v30, s34, s35, s36, s37] H : R))
noncomputable def r36_7 (k : KT R) : KT R := fun fr H => opn 19 fr (fun s0 s1 s2 s3 s4 s5 s7 s8 s10 s13 s14 s15 s16 s22 s30 s34 s35 s36 s37 => 
(qFa 1 s2 fun v23 =>
qLd v23 H fun v24 =>
k [s0, s1, s2, s3, s4, s5, s7, v24, s10, s13, s14, s15, s16, s22, s30, s34, s35, s36, s37] H : R))
noncomputable def r36_6 (k : KT R) : KT R := fun fr H => opn 19 fr (fun s0 s1 s2 s3 s4 s5 s7 s8 s10 s13 s14 s15 s16 s22 s30 s34 s35 s36 s37 => 
(qFa 0 s7 fun v21 =>
qLd v21 H fun v22 =>
k [s0, s1, s2, s3, s4, s5, s7, s8, s10, s13, s14, s15, s16, v22, s30, s34, s35, s36, s37] H : R))
noncomputable def r36_5 (k : KT R) : KT R := fun fr H => opn 19 fr (fun s0 s1 s2 s3 s4 s5 s7 s8 s10 s13 s14 s15 s16 s22 s30 s34 s35 s36 s37 => 
(qFa 0 s2 fun v19 =>
qLd v19 H fun v20 =>
k [s0, s1, s2, s3, s4, s5, s7, v20, s10, s13, s14, s15, s16, s22, s30, s34, s35, s36, s37] H : R))
noncomputable def r36_4 (k : KT R) : KT R := fun fr H => opn 19 fr (fun s0 s1 s2 s3 s4 s5 s7 s8 s10 s13 s14 s15 s16 s22 s30 s34 s35 s36 s37 => 
(qIa 5 s13 s15 fun v17 =>
qLdA 5 v17 H fun v18 =>
qNew (.cells z65) .ptr H fun v7 H =>
qSt 5 v7 v18 H fun _ H =>
k [s0, s1, s2, s3, s4, s5, v7, s8, s10, s13, s14, s15, s16, s22, s30, s34, s35, s36, s37] H : R))
noncomputable def r36_3 (k : KT R) : KT R := fun fr H => opn 19 fr (fun s0 s1 s2 s3 s4 s5 s7 s8 s10 s13 s14 s15 s16 s22 s30 s34 s35 s36 s37 => 
(qLss X 3 s15 s14 fun v16 =>
k [s0, s1, s2, s3, s4, s5, s7, s8, s10, s13, s14, s15, v16, s22, s30, s34, s35, s36, s37] H : R))
noncomputable def l36_10 (C : CallF) (k1 : KT R) (kr : KT R) : KT R → KT R := fun k2 => (r36_3 (qCd (sel 12) (fun k10 => k10) (fun _ => k1) (qBl (fun k3 => (r36_4 (r36_5 (r36_6 (qCd (sel 13) (fun k9 => (r36_7 k9)) (fun k9 => k9) (r36_8 C (qCd (sel 14) (fun _ => (r36_9 kr)) (fun k8 => k8) (r36_10 C (qBl (fun k4 => (qLoop (l36_7 k4))) k3))))))))) (r36_15 k2))))
noncomputable def r36_2 (k : KT R) : KT R := fun fr H => opn 19 fr (fun s0 s1 s2 s3 s4 s5 s7 s8 s10 s13 s14 s15 s16 s22 s30 s34 s35 s36 s37 => 
(qFa 0 s3 fun v12 =>
qLd v12 H fun v13 =>
qLenL v13 fun v14 =>
k [s0, s1, s2, s3, s4, s5, s7, s8, s10, v13, v14, (.int .i64 0), s16, s22, s30, s34, s35, s36, s37] H : R))
noncomputable def r36_1 (k : KT R) : KT R := fun fr H => opn 19 fr (fun s0 s1 s2 s3 s4 s5 s7 s8 s10 s13 s14 s15 s16 s22 s30 s34 s35 s36 s37 => 
(qNew (.map []) .map H fun v11 H =>
qNew (.cells z84) .ptr H fun v5 H =>
qSt 1 v5 v11 H fun _ H =>
k [s0, s1, s2, s3, s4, v5, s7, s8, s10, s13, s14, s15, s16, s22, s30, s34, s35, s36, s37] H : R))
noncomputable def r36_0 (k : KT R) : KT R := fun fr H => opn 19 fr (fun s0 s1 s2 s3 s4 s5 s7 s8 s10 s13 s14 s15 s16 s22 s30 s34 s35 s36 s37 => 
(qBox s0 H fun v2 H =>
qBox s1 H fun v3 H =>
k [s0, s1, v2, v3, (.bool false), s5, s7, s8, s10, s13, s14, s15, s16, s22, s30, s34, s35, s36, s37] H : R))
noncomputable def c36 (C : CallF) (l0 : List AV) (H : AH) (k : AV → AH → R) : R := opn 2 l0 (fun x0 x1 => (qFn (fun kr => (r36_0 (r36_1 (r36_2 (qBl (fun k1 => (qLoop (l36_10 C k1 kr))) (r36_16 C kr))))))
(fun fr H => k (sel 4 fr) H) [x0, x1, undef, undef, undef, undef, undef, undef, undef, undef, undef, undef, undef, undef, undef, undef, undef, undef, undef] H : R))
/- refectory/frags.Find -/
noncomputable def r37_4 (k : KT R) : KT R := fun fr H => opn 8 fr (fun s0 s1 s2 s3 s4 s5 s6 s12 => 
(qFa 1 s2 fun v14 =>
qLd v14 H fun v15 =>
qIa 4 v15 s6 fun v17 =>
qLdA 4 v17 H fun v18 =>
qSt 4 s4 v18 H fun _ H =>
k [s0, s1, s2, s3, s4, (.bool true), s6, s12] H : R))
noncomputable def r37_3 (k : KT R) : KT R := fun fr H => opn 8 fr (fun s0 s1 s2 s3 s4 s5 s6 s12 => 
(qBld z67 [] fun v13 =>
qSt 4 s4 v13 H fun _ H =>
k [s0, s1, s2, s3, s4, (.bool false), s6, s12] H : R))
noncomputable def r37_2 (k : KT R) : KT R := fun fr H => opn 8 fr (fun s0 s1 s2 s3 s4 s5 s6 s12 => 
(qLss X 3 s6 (.int .i64 0) fun v12 =>
k [s0, s1, s2, s3, s4, s5, s6, v12] H : R))
noncomputable def r37_1 (C : CallF) (k : KT R) : KT R := fun fr H => opn 8 fr (fun s0 s1 s2 s3 s4 s5 s6 s12 => 
(qFa 1 s2 fun v7 =>
qLd v7 H fun v8 =>
qRes (C 72 [v8, (.fn (.func 73) [] [s3])] H) fun v10 H =>
k [s0, s1, s2, s3, s4, s5, v10, s12] H : R))
noncomputable def r37_0 (k : KT R) : KT R := fun fr H => opn 8 fr (fun s0 s1 s2 s3 s4 s5 s6 s12 => 
(qBox s0 H fun v2 H =>
qBox s1 H fun v3 H =>
qNew (.cells z67) .ptr H fun v4 H =>
k [s0, s1, v2, v3, v4, (.bool false), s6, s12] H : R))
noncomputable def c37 (C : CallF) (l0 : List AV) (H : AH) (k : AV → AH → R) : R := opn 2 l0 (fun x0 x1 => (qFn (fun kr => (r37_0 (r37_1 C (r37_2 (qCd (sel 7) (fun _ => (r37_3 kr)) (fun k1 => k1) (r37_4 kr))))))
(fun fr H => qPtr (sel 4 fr) (qLdA 4 (sel 4 fr) H fun w0 => k (.tup [w0, (sel 5 fr)]) H)) [x0, x1, undef, undef, undef, undef, undef, undef] H : R))
/- refectory/frags.Reach$1 -/
noncomputable def r38_10 (k : KT R) : KT R := fun fr H => opn 13 fr (fun s0 s1 s2 s3 s4 s7 s8 s10 s11 s12 s13 s18 s26 => 
(qAdd X 3 s12 (.int .i64 1) fun v46 =>
k [s0, s1, s2, s3, s4, s7, s8, s10, s11, v46, s13, s18, s26] H : R))
noncomputable def r38_9 (C : CallF) (k : KT R) : KT R := fun fr H => opn 13 fr (fun s0 s1 s2 s3 s4 s7 s8 s10 s11 s12 s13 s18 s26 => 
(qLd s1 H fun v42 =>
qFa 3 s8 fun v43 =>
qLd v43 H fun v44 =>
qCallV C v42 [v44] H fun v45 H =>
k [s0, s1, s2, s3, s4, s7, s8, s10, s11, s12, s13, s18, s26] H : R))
noncomputable def r38_8 (C : CallF) (k : KT R) : KT R := fun fr H => opn 13 fr (fun s0 s1 s2 s3 s4 s7 s8 s10 s11 s12 s13 s18 s26 => 
(qLdA 2 s4 H fun v36 =>
qFa 2 s7 fun v37 =>
qLd v37 H fun v38 =>
qRes (C 37 [v36, v38] H) fun v39 H =>
qExt v39 0 fun v40 =>
qExt v39 1 fun v41 =>
qNew (.cells z67) .ptr H fun v8 H =>
qSt 4 v8 v40 H fun _ H =>
k [s0, s1, s2, s3, s4, s7, v8, s10, s11, s12, s13, s18, s26] H : R))
noncomputable def r38_7 (k : KT R) : KT R := fun fr H => opn 13 fr (fun s0 s1 s2 s3 s4 s7 s8 s10 s11 s12 s13 s18 s26 => 
(qLd s3 H fun v30 =>
qFa 2 s7 fun v31 =>
qLd v31 H fun v32 =>
qRows z9 1 [(0, v32)] fun v33 =>
qApp 1 16 v30 v33 false H fun v34 H =>
qSt 1 s3 v34 H fun _ H =>
k [s0, s1, s2, s3, s4, s7, s8, s10, s11, s12, s13, s18, s26] H : R))
noncomputable def r38_6 (k : KT R) : KT R := fun fr H => opn 13 fr (fun s0 s1 s2 s3 s4 s7 s8 s10 s11 s12 s13 s18 s26 => 
(qLd s2 H fun v27 =>
qFa 2 s7 fun v28 =>
qLd v28 H fun v29 =>
qMset X 84 v27 v29 (.bool true) H fun _ H =>
k [s0, s1, s2, s3, s4, s7, s8, s10, s11, s12, s13, s18, s26] H : R))
noncomputable def r38_5 (k : KT R) : KT R := fun fr H => opn 13 fr (fun s0 s1 s2 s3 s4 s7 s8 s10 s11 s12 s13 s18 s26 => 
(qLd s2 H fun v23 =>
qFa 2 s7 fun v24 =>
qLd v24 H fun v25 =>
qO (lookup X 84 v23 v25 false H) fun v26 =>
k [s0, s1, s2, s3, s4, s7, s8, s10, s11, s12, s13, s18, v26] H : R))
noncomputable def r38_4 (C : CallF) (k : KT R) : KT R := fun fr H => opn 13 fr (fun s0 s1 s2 s3 s4 s7 s8 s10 s11 s12 s13 s18 s26 => 
(qLd s1 H fun v19 =>
qFa 6 s7 fun v20 =>
qLd v20 H fun v21 =>
qCallV C v19 [v21] H fun v22 H =>
k [s0, s1, s2, s3, s4, s7, s8, s10, s11, s12, s13, s18, s26] H : R))
noncomputable def r38_3 (k : KT R) : KT R := fun fr H => opn 13 fr (fun s0 s1 s2 s3 s4 s7 s8 s10 s11 s12 s13 s18 s26 => 
(qFa 0 s7 fun v16 =>
qLd v16 H fun v17 =>
qNeq X 3 v17 (.int .i64 2) fun v18 =>
k [s0, s1, s2, s3, s4, s7, s8, s10, s11, s12, s13, v18, s26] H : R))
noncomputable def r38_2 (k : KT R) : KT R := fun fr H => opn 13 fr (fun s0 s1 s2 s3 s4 s7 s8 s10 s11 s12 s13 s18 s26 => 
(qIa 7 s10 s12 fun v14 =>
qLdA 7 v14 H fun v15 =>
qNew (.cells z36) .ptr H fun v7 H =>
qSt 7 v7 v15 H fun _ H =>
k [s0, s1, s2, s3, s4, v7, s8, s10, s11, s12, s13, s18, s26] H : R))
noncomputable def r38_1 (k : KT R) : KT R := fun fr H => opn 13 fr (fun s0 s1 s2 s3 s4 s7 s8 s10 s11 s12 s13 s18 s26 => 
(qLss X 3 s12 s11 fun v13 =>
k [s0, s1, s2, s3, s4, s7, s8, s10, s11, s12, v13, s18, s26] H : R))
noncomputable def l38_6 (C : CallF) (k1 : KT R) : KT R → KT R := fun k2 => (r38_1 (qCd (sel 10) (fun k6 => k6) (fun _ => k1) (qBl (fun k3 => (r38_2 (r38_3 (qCd (sel 11) (fun _ => (r38_4 C k3)) (fun k5 => k5) (r38_5 (qCd (sel 12) (fun _ => k3) (fun k4 => k4) (r38_6 (r38_7 (r38_8 C (r38_9 C k3)))))))))) (r38_10 k2))))
noncomputable def r38_0 (k : KT R) : KT R := fun fr H => opn 13 fr (fun s0 s1 s2 s3 s4 s7 s8 s10 s11 s12 s13 s18 s26 => 
(qLenL s0 fun v11 =>
k [s0, s1, s2, s3, s4, s7, s8, s0, v11, (.int .i64 0), s13, s18, s26] H : R))
noncomputable def c38 (C : CallF) (l0 : List AV) (H : AH) (k : AV → AH → R) : R := opn 5 l0 (fun x0 x1 x2 x3 x4 => (qFn (fun kr => (r38_0 (qBl (fun k1 => (qLoop (l38_6 C k1))) kr)))
(fun fr H => k (.tup []) H) [x0, x1, x2, x3, x4, undef, undef, undef, undef, undef, undef, undef, undef] H : R))
/- (*refectory/refectorylaw00.G).next -/
noncomputable def r39_4 (C : CallF) (k : KT R) : KT R := fun fr H => opn 4 fr (fun s0 s1 s4 s22 => 
(qNc s0 fun v33 =>
qFa 0 v33 fun v34 =>
qLd v34 H fun v35 =>
qNc s0 fun v37 =>
qFa 1 v37 fun v38 =>
qLd v38 H fun v39 =>
qSub X 3 v39 (.int .i64 1) fun v40 =>
qIa 1 v35 v40 fun v41 =>
qLd v41 H fun v42 =>
qRes (C 14 [v42, s1] H) fun v44 H =>
k [s0, s1, v44, s22] H : R))
noncomputable def r39_3 (k : KT R) : KT R := fun fr H => opn 4 fr (fun s0 s1 s4 s22 => 
(qNc s0 fun v24 =>
qFa 1 v24 fun v25 =>
qLd v25 H fun v26 =>
qRem X 3 v26 (.int .i64 2) fun v27 =>
qSub X 3 s1 (.int .i64 1) fun v29 =>
qMul X 3 v27 v29 fun v30 =>
qQuo X 3 v30 (.int .i64 3) fun v31 =>
k [s0, s1, v31, s22] H : R))
noncomputable def r39_2 (k : KT R) : KT R := fun fr H => opn 4 fr (fun s0 s1 s4 s22 => 
(qNc s0 fun v13 =>
qFa 1 v13 fun v14 =>
qLd v14 H fun v15 =>
qSub X 3 v15 (.int .i64 1) fun v16 =>
qNc s0 fun v18 =>
qFa 0 v18 fun v19 =>
qLd v19 H fun v20 =>
qLenL v20 fun v21 =>
qGeq X 3 v16 v21 fun v22 =>
k [s0, s1, s4, v22] H : R))
noncomputable def r39_1 (k : KT R) : KT R := fun fr H => opn 4 fr (fun s0 s1 s4 s22 => 
(qNc s0 fun v6 =>
qFa 1 v6 fun v7 =>
qLd v7 H fun v8 =>
qAdd X 3 v8 (.int .i64 1) fun v9 =>
qNc s0 fun v10 =>
qFa 1 v10 fun v11 =>
qSt 1 v11 v9 H fun _ H =>
k [s0, s1, s4, s22] H : R))
noncomputable def r39_0 (k : KT R) : KT R := fun fr H => opn 4 fr (fun s0 s1 s4 s22 => 
(k [s0, s1, (.int .i64 0), s22] H : R))
noncomputable def c39 (C : CallF) (l0 : List AV) (H : AH) (k : AV → AH → R) : R := opn 2 l0 (fun x0 x1 => (qFn (fun kr => (r39_0 (r39_1 (r39_2 (qCd (sel 3) (fun _ => (r39_3 kr)) (fun k1 => k1) (r39_4 C kr))))))
(fun fr H => k (sel 2 fr) H) [x0, x1, undef, undef] H : R))
/- (*refectory/refectorylaw00.G).Sels -/
noncomputable def r40_23 (k : KT R) : KT R := fun fr H => opn 18 fr (fun s0 s1 s2 s6 s7 s9 s10 s11 s12 s13 s14 s28 s43 s64 s97 s111 s129 s147 => 
(k [s0, s1, s2, s9, s7, s9, s10, s11, s12, s13, s14, s28, s43, s64, s97, s111, s129, s147] H : R))
noncomputable def r40_5 (k : KT R) : KT R := fun fr H => opn 18 fr (fun s0 s1 s2 s6 s7 s9 s10 s11 s12 s13 s14 s28 s43 s64 s97 s111 s129 s147 => 
(qSub X 3 s10 (.int .i64 1) fun v30 =>
k [s0, s1, s2, s6, s7, s9, v30, s11, s12, s13, s14, s28, s43, s64, s97, s111, s129, s147] H : R))
noncomputable def r40_10 (k : KT R) : KT R := fun fr H => opn 18 fr (fun s0 s1 s2 s6 s7 s9 s10 s11 s12 s13 s14 s28 s43 s64 s97 s111 s129 s147 => 
(qBld z36 [(0, 1, (.int .i64 1)), (2, 1, (.str [95,95,116,121,112,101,110,97,109,101]))] fun v61 =>
qRows z36 1 [(0, v61)] fun v62 =>
qApp 7 128 s9 v62 false H fun v63 H =>
k [s0, s1, s2, s6, s7, v63, s10, s11, s12, s13, s14, s28, s43, s64, s97, s111, s129, s147] H : R))
noncomputable def r40_13 (C : CallF) (k : KT R) : KT R := fun fr H => opn 18 fr (fun s0 s1 s2 s6 s7 s9 s10 s11 s12 s13 s14 s28 s43 s64 s97 s111 s129 s147 => 
(qRes (C 75 [s0] H) fun v88 H =>
qAdd X 3 s2 (.int .i64 1) fun v92 =>
qRes (C 40 [s0, s13, v92] H) fun v93 H =>
qBld z36 [(0, 1, (.int .i64 3)), (3, 1, s13), (5, 1, v88), (6, 1, v93)] fun v94 =>
qRows z36 1 [(0, v94)] fun v95 =>
qApp 7 128 s9 v95 false H fun v96 H =>
k [s0, s1, s2, s6, s7, v96, s10, s11, s12, s13, s14, s28, s43, s64, s97, s111, s129, s147] H : R))
noncomputable def r40_12 (C : CallF) (k : KT R) : KT R := fun fr H => opn 18 fr (fun s0 s1 s2 s6 s7 s9 s10 s11 s12 s13 s14 s28 s43 s64 s97 s111 s129 s147 => 
(qLenL s12 fun v81 =>
qRes (C 39 [s0, v81] H) fun v82 H =>
qIa 1 s12 v82 fun v83 =>
qLd v83 H fun v84 =>
k [s0, s1, s2, s6, s7, s9, s10, s11, s12, v84, s14, s28, s43, s64, s97, s111, s129, s147] H : R))
noncomputable def r40_15 (C : CallF) (k : KT R) : KT R := fun fr H => opn 18 fr (fun s0 s1 s2 s6 s7 s9 s10 s11 s12 s13 s14 s28 s43 s64 s97 s111 s129 s147 => 
(qRes (C 75 [s0] H) fun v102 H =>
qAdd X 3 s2 (.int .i64 1) fun v106 =>
qRes (C 40 [s0, s1, v106] H) fun v107 H =>
qBld z36 [(0, 1, (.int .i64 3)), (5, 1, v102), (6, 1, v107)] fun v108 =>
qRows z36 1 [(0, v108)] fun v109 =>
qApp 7 128 s9 v109 false H fun v110 H =>
k [s0, s1, s2, s6, s7, v110, s10, s11, s12, s13, s14, s28, s43, s64, s97, s111, s129, s147] H : R))
noncomputable def r40_20 (C : CallF) (k : KT R) : KT R := fun fr H => opn 18 fr (fun s0 s1 s2 s6 s7 s9 s10 s11 s12 s13 s14 s28 s43 s64 s97 s111 s129 s147 => 
(qRes (C 75 [s0] H) fun v143 H =>
qBld z36 [(0, 1, (.int .i64 2)), (2, 1, s14), (5, 1, v143)] fun v144 =>
qRows z36 1 [(0, v144)] fun v145 =>
qApp 7 128 s9 v145 false H fun v146 H =>
k [s0, s1, s2, s6, s7, v146, s10, s11, s12, s13, s14, s28, s43, s64, s97, s111, s129, s147] H : R))
noncomputable def r40_19 (k : KT R) : KT R := fun fr H => opn 18 fr (fun s0 s1 s2 s6 s7 s9 s10 s11 s12 s13 s14 s28 s43 s64 s97 s111 s129 s147 => 
(qNc s0 fun v132 =>
qFa 6 v132 fun v133 =>
qLd v133 H fun v134 =>
qRows z9 1 [(0, s14)] fun v136 =>
qApp 1 16 v134 v136 false H fun v137 H =>
qNc s0 fun v138 =>
qFa 6 v138 fun v139 =>
qSt 1 v139 v137 H fun _ H =>
k [s0, s1, s2, s6, s7, s9, s10, s11, s12, s13, s14, s28, s43, s64, s97, s111, s129, s147] H : R))
noncomputable def r40_18 (C : CallF) (k : KT R) : KT R := fun fr H => opn 18 fr (fun s0 s1 s2 s6 s7 s9 s10 s11 s12 s13 s14 s28 s43 s64 s97 s111 s129 s147 => 
(qNc s0 fun v124 =>
qFa 6 v124 fun v125 =>
qLd v125 H fun v126 =>
qRes (C 76 [v126, s14] H) fun v128 H =>
qNot v128 fun v129 =>
k [s0, s1, s2, s6, s7, s9, s10, s11, s12, s13, s14, s28, s43, s64, s97, s111, v129, s147] H : R))
noncomputable def r40_17 (k : KT R) : KT R := fun fr H => opn 18 fr (fun s0 s1 s2 s6 s7 s9 s10 s11 s12 s13 s14 s28 s43 s64 s97 s111 s129 s147 => 
(qIa 1 s12 (.int .i64 0) fun v120 =>
qLd v120 H fun v121 =>
qAdd X 9 (.str [70]) v121 fun v122 =>
k [s0, s1, s2, s6, s7, s9, s10, s11, s12, s13, v122, s28, s43, s64, s97, s111, s129, s147] H : R))
noncomputable def r40_22 (C : CallF) (k : KT R) : KT R := fun fr H => opn 18 fr (fun s0 s1 s2 s6 s7 s9 s10 s11 s12 s13 s14 s28 s43 s64 s97 s111 s129 s147 => 
(qFa 3 s7 fun v154 =>
qLd v154 H fun v155 =>
qFa 3 s7 fun v157 =>
qLd v157 H fun v158 =>
qLenL v158 fun v159 =>
qRes (C 39 [s0, v159] H) fun v160 H =>
qLd v154 H fun w => qSame v155 w (qIa 5 v155 v160 fun v161 =>
qLdA 5 v161 H fun v162 =>
qRes (C 77 [s0, v162, s2] H) fun v164 H =>
qRows z36 1 [(0, v164)] fun v165 =>
qApp 7 128 s9 v165 false H fun v166 H =>
k [s0, s1, s2, s6, s7, v166, s10, s11, s12, s13, s14, s28, s43, s64, s97, s111, s129, s147] H) : R))
noncomputable def r40_8 (k : KT R) : KT R := fun fr H => opn 18 fr (fun s0 s1 s2 s6 s7 s9 s10 s11 s12 s13 s14 s28 s43 s64 s97 s111 s129 s147 => 
(qBld z36 [(0, 1, (.int .i64 1)), (2, 1, (.str [95,95,116,121,112,101,110,97,109,101]))] fun v40 =>
qRows z36 1 [(0, v40)] fun v41 =>
qApp 7 128 s9 v41 false H fun v42 H =>
k [s0, s1, s2, s6, s7, v42, s10, s11, s12, s13, s14, s28, s43, s64, s97, s111, s129, s147] H : R))
noncomputable def r40_21 (k : KT R) : KT R := fun fr H => opn 18 fr (fun s0 s1 s2 s6 s7 s9 s10 s11 s12 s13 s14 s28 s43 s64 s97 s111 s129 s147 => 
(qFa 3 s7 fun v148 =>
qLd v148 H fun v149 =>
qLenL v149 fun v150 =>
qGtr X 3 v150 (.int .i64 0) fun v151 =>
k [s0, s1, s2, s6, s7, s9, s10, s11, s12, s13, s14, s28, s43, s64, s97, s111, s129, v151] H : R))
noncomputable def r40_16 (k : KT R) : KT R := fun fr H => opn 18 fr (fun s0 s1 s2 s6 s7 s9 s10 s11 s12 s13 s14 s28 s43 s64 s97 s111 s129 s147 => 
(qEql X 3 s11 (.int .i64 3) fun v113 =>
qG v113 true (fun k => k s12 H) H fun v115 H =>
qG v113 true (fun k => qLenL v115 fun v => k v H) H fun v116 H =>
qG v113 true (fun k => qGtr X 3 v116 (.int .i64 0) fun v => k v H) H fun v117 H =>
qPick v113 v117 (.bool false) fun v118 =>
k [s0, s1, s2, s6, s7, s9, s10, s11, s12, s13, s14, s28, s43, s64, s97, v118, s129, s147] H : R))
noncomputable def r40_14 (k : KT R) : KT R := fun fr H => opn 18 fr (fun s0 s1 s2 s6 s7 s9 s10 s11 s12 s13 s14 s28 s43 s64 s97 s111 s129 s147 => 
(qEql X 3 s11 (.int .i64 2) fun v99 =>
k [s0, s1, s2, s6, s7, s9, s10, s11, s12, s13, s14, s28, s43, s64, v99, s111, s129, s147] H : R))
noncomputable def r40_11 (k : KT R) : KT R := fun fr H => opn 18 fr (fun s0 s1 s2 s6 s7 s9 s10 s11 s12 s13 s14 s28 s43 s64 s97 s111 s129 s147 => 
(qEql X 3 s11 (.int .i64 1) fun v66 =>
qG v66 false (fun k => qFa 3 s7 fun v => k v H) H fun v68 H =>
qG v66 false (fun k => qLd v68 H fun v => k v H) H fun v69 H =>
qG v66 false (fun k => qLenL v69 fun v => k v H) H fun v70 H =>
qG v66 false (fun k => qEql X 3 v70 (.int .i64 0) fun v => k v H) H fun v71 H =>
qPick v66 (.bool true) v71 fun v72 =>
qG v72 true (fun k => k s12 H) H fun v74 H =>
qG v72 true (fun k => qLenL v74 fun v => k v H) H fun v75 H =>
qG v72 true (fun k => qGtr X 3 v75 (.int .i64 0) fun v => k v H) H fun v76 H =>
qPick v72 v76 (.bool false) fun v77 =>
k [s0, s1, s2, s6, s7, s9, s10, s11, s12, s13, s14, s28, s43, v77, s97, s111, s129, s147] H : R))
noncomputable def r40_9 (k : KT R) : KT R := fun fr H => opn 18 fr (fun s0 s1 s2 s6 s7 s9 s10 s11 s12 s13 s14 s28 s43 s64 s97 s111 s129 s147 => 
(qGeq X 3 s2 (.int .i64 4) fun v45 =>
qG v45 false (fun k => k s11 H) H fun v47 H =>
qG v45 false (fun k => qEql X 3 v47 (.int .i64 0) fun v => k v H) H fun v48 H =>
qPick v45 (.bool true) v48 fun v49 =>
qG v49 false (fun k => qFa 3 s7 fun v => k v H) H fun v51 H =>
qG v49 false (fun k => qLd v51 H fun v => k v H) H fun v52 H =>
qG v49 false (fun k => qLenL v52 fun v => k v H) H fun v53 H =>
qG v49 false (fun k => qEql X 3 v53 (.int .i64 0) fun v => k v H) H fun v54 H =>
qG v49 false (fun k => k v54 H) H fun v55 H =>
qG v55 true (fun k => k s11 H) H fun v56 H =>
qG v55 true (fun k => qLss X 3 v56 (.int .i64 4) fun v => k v H) H fun v57 H =>
qG v49 false (fun k => qPick v55 v57 (.bool false) fun v => k v H) H fun v58 H =>
qPick v49 (.bool true) v58 fun v59 =>
k [s0, s1, s2, s6, s7, s9, s10, s11, s12, s13, s14, s28, v59, s64, s97, s111, s129, s147] H : R))
noncomputable def r40_7 (C : CallF) (k : KT R) : KT R := fun fr H => opn 18 fr (fun s0 s1 s2 s6 s7 s9 s10 s11 s12 s13 s14 s28 s43 s64 s97 s111 s129 s147 => 
(qNc s0 fun v34 =>
qFa 2 v34 fun v35 =>
qLdA 3 v35 H fun v36 =>
qRes (C 74 [v36, s1] H) fun v38 H =>
k [s0, s1, s2, s6, s7, s9, s10, s11, v38, s13, s14, s28, s43, s64, s97, s111, s129, s147] H : R))
noncomputable def r40_6 (C : CallF) (k : KT R) : KT R := fun fr H => opn 18 fr (fun s0 s1 s2 s6 s7 s9 s10 s11 s12 s13 s14 s28 s43 s64 s97 s111 s129 s147 => 
(qRes (C 39 [s0, (.int .i64 9)] H) fun v32 H =>
k [s0, s1, s2, s6, s7, s9, s10, v32, s12, s13, s14, s28, s43, s64, s97, s111, s129, s147] H : R))
noncomputable def r40_4 (k : KT R) : KT R := fun fr H => opn 18 fr (fun s0 s1 s2 s6 s7 s9 s10 s11 s12 s13 s14 s28 s43 s64 s97 s111 s129 s147 => 
(qGtr X 3 s10 (.int .i64 0) fun v28 =>
k [s0, s1, s2, s6, s7, s9, s10, s11, s12, s13, s14, v28, s43, s64, s97, s111, s129, s147] H : R))
noncomputable def l40_11 (C : CallF) (k1 : KT R) : KT R → KT R := fun k2 => (r40_4 (qCd (sel 11) (fun k11 => k11) (fun _ => k1) (qBl (fun k3 => (r40_6 C (r40_7 C (qBl (fun k4 => (r40_9 (qCd (sel 12) (fun k5 => (r40_10 k5)) (fun k5 => (r40_11 (qCd (sel 13) (fun k6 => (r40_12 C (r40_13 C k6))) (fun k6 => (r40_14 (qCd (sel 14) (fun k7 => (r40_15 C k7)) (fun k7 => (r40_16 (qCd (sel 15) (fun k8 => (r40_17 (r40_18 C (qCd (sel 16) (fun k9 => (r40_19 k9)) (fun k9 => k9) (r40_20 C k8))))) (fun k8 => (r40_21 (qCd (sel 17) (fun k10 => (r40_22 C k10)) (fun k10 => (r40_8 k10)) k8))) k7))) k6))) k5))) k4))) k3)))) (r40_5 k2))))
noncomputable def r40_3 (C : CallF) (k : KT R) : KT R := fun fr H => opn 18 fr (fun s0 s1 s2 s6 s7 s9 s10 s11 s12 s13 s14 s28 s43 s64 s97 s111 s129 s147 => 
(qRes (C 39 [s0, (.int .i64 3)] H) fun v25 H =>
qAdd X 3 (.int .i64 1) v25 fun v26 =>
k [s0, s1, s2, s6, s7, s9, v26, s11, s12, s13, s14, s28, s43, s64, s97, s111, s129, s147] H : R))
noncomputable def r40_2 (k : KT R) : KT R := fun fr H => opn 18 fr (fun s0 s1 s2 s6 s7 s9 s10 s11 s12 s13 s14 s28 s43 s64 s97 s111 s129 s147 => 
(k [s0, s1, s2, s6, s7, (.sl [] .nil), s10, s11, s12, s13, s14, s28, s43, s64, s97, s111, s129, s147] H : R))
noncomputable def r40_1 (C : CallF) (k : KT R) : KT R := fun fr H => opn 18 fr (fun s0 s1 s2 s6 s7 s9 s10 s11 s12 s13 s14 s28 s43 s64 s97 s111 s129 s147 => 
(qNc s0 fun v17 =>
qFa 2 v17 fun v18 =>
qLdA 3 v18 H fun v19 =>
qRes (C 42 [v19, s1] H) fun v21 H =>
qExt v21 0 fun v22 =>
qExt v21 1 fun v23 =>
qNew (.cells z110) .ptr H fun v7 H =>
qSt 5 v7 v22 H fun _ H =>
k [s0, s1, s2, s6, v7, s9, s10, s11, s12, s13, s14, s28, s43, s64, s97, s111, s129, s147] H : R))
noncomputable def r40_0 (k : KT R) : KT R := fun fr H => opn 18 fr (fun s0 s1 s2 s6 s7 s9 s10 s11 s12 s13 s14 s28 s43 s64 s97 s111 s129 s147 => 
(k [s0, s1, s2, (.sl [] .nil), s7, s9, s10, s11, s12, s13, s14, s28, s43, s64, s97, s111, s129, s147] H : R))
noncomputable def c40 (C : CallF) (l0 : List AV) (H : AH) (k : AV → AH → R) : R := opn 3 l0 (fun x0 x1 x2 => (qFn (fun kr => (r40_0 (r40_1 C (r40_2 (r40_3 C (qBl (fun k1 => (qLoop (l40_11 C k1))) (r40_23 kr)))))))
(fun fr H => k (sel 3 fr) H) [x0, x1, x2, undef, undef, undef, undef, undef, undef, undef, undef, undef, undef, undef, undef, undef, undef, undef] H : R))
/- refectory/refectoryref12.Root -/
noncomputable def r41_3 (k : KT R) : KT R := fun fr H => opn 6 fr (fun s0 s1 s2 s3 s4 s6 => 
(qFa 0 s2 fun v9 =>
qLd v9 H fun v10 =>
k [s0, s1, s2, s3, v10, s6] H : R))
noncomputable def r41_2 (k : KT R) : KT R := fun fr H => opn 6 fr (fun s0 s1 s2 s3 s4 s6 => 
(qFa 1 s2 fun v7 =>
qLd v7 H fun v8 =>
k [s0, s1, s2, s3, v8, s6] H : R))
noncomputable def r41_1 (k : KT R) : KT R := fun fr H => opn 6 fr (fun s0 s1 s2 s3 s4 s6 => 
(qFa 0 s3 fun v5 =>
qLd v5 H fun v6 =>
k [s0, s1, s2, s3, s4, v6] H : R))
noncomputable def r41_0 (k : KT R) : KT R := fun fr H => opn 6 fr (fun s0 s1 s2 s3 s4 s6 => 
(qBox s0 H fun v2 H =>
qBox s1 H fun v3 H =>
k [s0, s1, v2, v3, (.str []), s6] H : R))
noncomputable def c41 (C : CallF) (l0 : List AV) (H : AH) (k : AV → AH → R) : R := opn 2 l0 (fun x0 x1 => (qFn (fun kr => (r41_0 (r41_1 (qCd (sel 5) (fun _ => (r41_2 kr)) (fun k1 => k1) (r41_3 kr)))))
(fun fr H => k (sel 4 fr) H) [x0, x1, undef, undef, undef, undef] H : R))
/- refectory/refectoryref09.Find -/
noncomputable def r42_8 (k : KT R) : KT R := fun fr H => opn 9 fr (fun s0 s1 s2 s4 s5 s6 s11 s21 s28 => 
(qBld z110 [] fun v31 =>
qSt 5 s4 v31 H fun _ H =>
k [s0, s1, s2, s4, (.bool false), s6, s11, s21, s28] H : R))
noncomputable def r42_7 (k : KT R) : KT R := fun fr H => opn 9 fr (fun s0 s1 s2 s4 s5 s6 s11 s21 s28 => 
(qBld z110 [(0, 1, (.int .i64 1)), (1, 1, s1)] fun v30 =>
qSt 5 s4 v30 H fun _ H =>
k [s0, s1, s2, s4, (.bool true), s6, s11, s21, s28] H : R))
noncomputable def r42_6 (C : CallF) (k : KT R) : KT R := fun fr H => opn 9 fr (fun s0 s1 s2 s4 s5 s6 s11 s21 s28 => 
(qRes (C 78 [s1] H) fun v28 H =>
k [s0, s1, s2, s4, s5, s6, s11, s21, v28] H : R))
noncomputable def r42_3 (k : KT R) : KT R := fun fr H => opn 9 fr (fun s0 s1 s2 s4 s5 s6 s11 s21 s28 => 
(qAdd X 3 s6 (.int .i64 1) fun v13 =>
k [s0, s1, s2, s4, s5, v13, s11, s21, s28] H : R))
noncomputable def r42_5 (k : KT R) : KT R := fun fr H => opn 9 fr (fun s0 s1 s2 s4 s5 s6 s11 s21 s28 => 
(qFa 2 s2 fun v22 =>
qLd v22 H fun v23 =>
qIa 5 v23 s6 fun v25 =>
qLdA 5 v25 H fun v26 =>
qSt 5 s4 v26 H fun _ H =>
k [s0, s1, s2, s4, (.bool true), s6, s11, s21, s28] H : R))
noncomputable def r42_4 (k : KT R) : KT R := fun fr H => opn 9 fr (fun s0 s1 s2 s4 s5 s6 s11 s21 s28 => 
(qFa 2 s2 fun v14 =>
qLd v14 H fun v15 =>
qIa 5 v15 s6 fun v17 =>
qFa 1 v17 fun v18 =>
qLd v18 H fun v19 =>
qEql X 9 v19 s1 fun v21 =>
k [s0, s1, s2, s4, s5, s6, s11, v21, s28] H : R))
noncomputable def r42_2 (k : KT R) : KT R := fun fr H => opn 9 fr (fun s0 s1 s2 s4 s5 s6 s11 s21 s28 => 
(qFa 2 s2 fun v8 =>
qLd v8 H fun v9 =>
qLenL v9 fun v10 =>
qLss X 3 s6 v10 fun v11 =>
k [s0, s1, s2, s4, s5, s6, v11, s21, s28] H : R))
noncomputable def l42_6 (k2 : KT R) (kr : KT R) : KT R → KT R := fun k3 => (r42_2 (qCd (sel 6) (fun k6 => k6) (fun _ => k2) (qBl (fun k4 => (r42_4 (qCd (sel 7) (fun _ => (r42_5 kr)) (fun k5 => k5) k4))) (r42_3 k3))))
noncomputable def r42_1 (k : KT R) : KT R := fun fr H => opn 9 fr (fun s0 s1 s2 s4 s5 s6 s11 s21 s28 => 
(k [s0, s1, s2, s4, s5, (.int .i64 0), s11, s21, s28] H : R))
noncomputable def r42_0 (k : KT R) : KT R := fun fr H => opn 9 fr (fun s0 s1 s2 s4 s5 s6 s11 s21 s28 => 
(qBox s0 H fun v2 H =>
qNew (.cells z110) .ptr H fun v4 H =>
k [s0, s1, v2, v4, (.bool false), s6, s11, s21, s28] H : R))
noncomputable def c42 (C : CallF) (l0 : List AV) (H : AH) (k : AV → AH → R) : R := opn 2 l0 (fun x0 x1 => (qFn (fun kr => (r42_0 (r42_1 (qBl (fun k2 => (qLoop (l42_6 k2 kr))) (r42_6 C (qCd (sel 8) (fun _ => (r42_7 kr)) (fun k1 => k1) (r42_8 kr)))))))
(fun fr H => qPtr (sel 3 fr) (qLdA 5 (sel 3 fr) H fun w0 => k (.tup [w0, (sel 4 fr)]) H)) [x0, x1, undef, undef, undef, undef, undef, undef, undef] H : R))
/- refectory/refectoryref09.Kind -/
noncomputable def r43_2 (k : KT R) : KT R := fun fr H => opn 5 fr (fun s0 s1 s2 s4 s5 => 
(qFa 0 s5 fun v13 =>
qLd v13 H fun v14 =>
k [s0, s1, s2, v14, s5] H : R))
noncomputable def r43_1 (C : CallF) (k : KT R) : KT R := fun fr H => opn 5 fr (fun s0 s1 s2 s4 s5 => 
(qLdA 3 s2 H fun v8 =>
qRes (C 42 [v8, s1] H) fun v10 H =>
qExt v10 0 fun v11 =>
qExt v10 1 fun v12 =>
qNew (.cells z110) .ptr H fun v5 H =>
qSt 5 v5 v11 H fun _ H =>
k [s0, s1, s2, s4, v5] H : R))
noncomputable def r43_0 (k : KT R) : KT R := fun fr H => opn 5 fr (fun s0 s1 s2 s4 s5 => 
(qBox s0 H fun v2 H =>
k [s0, s1, v2, (.int .i64 0), s5] H : R))
noncomputable def c43 (C : CallF) (l0 : List AV) (H : AH) (k : AV → AH → R) : R := opn 2 l0 (fun x0 x1 => (qFn (fun kr => (r43_0 (r43_1 C (r43_2 kr))))
(fun fr H => k (sel 3 fr) H) [x0, x1, undef, undef, undef] H : R))
/- (*refectory/merge.search).sets -/
noncomputable def r44_15 (k : KT R) : KT R := fun fr H => opn 14 fr (fun s0 s1 s2 s6 s7 s8 s9 s17 s19 s20 s21 s28 s40 s54 => 
(k [s0, s1, s2, (.bool true), s7, s8, s9, s17, s19, s20, s21, s28, s40, s54] H : R))
noncomputable def r44_14 (k : KT R) : KT R := fun fr H => opn 14 fr (fun s0 s1 s2 s6 s7 s8 s9 s17 s19 s20 s21 s28 s40 s54 => 
(qAdd X 3 s20 (.int .i64 1) fun v55 =>
k [s0, s1, s2, s6, s7, s8, s9, s17, s19, v55, s21, s28, s40, s54] H : R))
noncomputable def r44_13 (k : KT R) : KT R := fun fr H => opn 14 fr (fun s0 s1 s2 s6 s7 s8 s9 s17 s19 s20 s21 s28 s40 s54 => 
(k [s0, s1, s2, (.bool false), s7, s8, s9, s17, s19, s20, s21, s28, s40, s54] H : R))
noncomputable def r44_12 (C : CallF) (k : KT R) : KT R := fun fr H => opn 14 fr (fun s0 s1 s2 s6 s7 s8 s9 s17 s19 s20 s21 s28 s40 s54 => 
(qIa 7 s1 s7 fun v49 =>
qFa 6 v49 fun v50 =>
qLd v50 H fun v51 =>
qRes (C 44 [s0, v51, s8] H) fun v53 H =>
qNot v53 fun v54 =>
k [s0, s1, s2, s6, s7, s8, s9, s17, s19, s20, s21, s28, s40, v54] H : R))
noncomputable def r44_9 (C : CallF) (k : KT R) : KT R := fun fr H => opn 14 fr (fun s0 s1 s2 s6 s7 s8 s9 s17 s19 s20 s21 s28 s40 s54 => 
(qIa 7 s1 s7 fun v35 =>
qBld z161 [(0, 1, v35), (1, 1, s2)] fun v37 =>
qRes (C 81 [s0, v37] H) fun v38 H =>
qPart 0 v38 fun v39 =>
k [s0, s1, s2, s6, s7, v39, s9, s17, s19, s20, s21, s28, s40, s54] H : R))
noncomputable def r44_11 (k : KT R) : KT R := fun fr H => opn 14 fr (fun s0 s1 s2 s6 s7 s8 s9 s17 s19 s20 s21 s28 s40 s54 => 
(qFa 3 s9 fun v44 =>
qLd v44 H fun v45 =>
k [s0, s1, s2, s6, s7, v45, s9, s17, s19, s20, s21, s28, s40, s54] H : R))
noncomputable def r44_10 (k : KT R) : KT R := fun fr H => opn 14 fr (fun s0 s1 s2 s6 s7 s8 s9 s17 s19 s20 s21 s28 s40 s54 => 
(qFa 3 s9 fun v41 =>
qLd v41 H fun v42 =>
qNeq X 9 v42 (.str []) fun v43 =>
k [s0, s1, s2, s6, s7, s8, s9, s17, s19, s20, s21, s28, v43, s54] H : R))
noncomputable def r44_8 (k : KT R) : KT R := fun fr H => opn 14 fr (fun s0 s1 s2 s6 s7 s8 s9 s17 s19 s20 s21 s28 s40 s54 => 
(qFa 0 s9 fun v29 =>
qLd v29 H fun v30 =>
qEql X 3 v30 (.int .i64 1) fun v31 =>
k [s0, s1, s2, s6, s7, s8, s9, s17, s19, s20, s21, v31, s40, s54] H : R))
noncomputable def r44_7 (k : KT R) : KT R := fun fr H => opn 14 fr (fun s0 s1 s2 s6 s7 s8 s9 s17 s19 s20 s21 s28 s40 s54 => 
(qIa 7 s1 s7 fun v26 =>
qLdA 7 v26 H fun v27 =>
qNew (.cells z36) .ptr H fun v9 H =>
qSt 7 v9 v27 H fun _ H =>
k [s0, s1, s2, s6, s7, s8, v9, s17, s19, s20, s21, s28, s40, s54] H : R))
noncomputable def r44_6 (k : KT R) : KT R := fun fr H => opn 14 fr (fun s0 s1 s2 s6 s7 s8 s9 s17 s19 s20 s21 s28 s40 s54 => 
(k [s0, s1, s2, s6, s7, s2, s9, s17, s19, s20, s21, s28, s40, s54] H : R))
noncomputable def r44_5 (k : KT R) : KT R := fun fr H => opn 14 fr (fun s0 s1 s2 s6 s7 s8 s9 s17 s19 s20 s21 s28 s40 s54 => 
(k [s0, s1, s2, s6, s20, s8, s9, s17, s19, s20, s21, s28, s40, s54] H : R))
noncomputable def r44_4 (k : KT R) : KT R := fun fr H => opn 14 fr (fun s0 s1 s2 s6 s7 s8 s9 s17 s19 s20 s21 s28 s40 s54 => 
(qLss X 3 s20 s19 fun v21 =>
k [s0, s1, s2, s6, s7, s8, s9, s17, s19, s20, v21, s28, s40, s54] H : R))
noncomputable def l44_8 (C : CallF) (k1 : KT R) (kr : KT R) : KT R → KT R := fun k2 => (r44_4 (qCd (sel 10) (fun k8 => k8) (fun _ => k1) (qBl (fun k3 => (r44_5 (r44_6 (r44_7 (qBl (fun k5 => (r44_8 (qCd (sel 11) (fun k6 => (r44_9 C k6)) (fun k6 => (r44_10 (qCd (sel 12) (fun k7 => (r44_11 k7)) (fun k7 => k7) k6))) k5))) (r44_12 C (qCd (sel 13) (fun _ => (r44_13 kr)) (fun k4 => k4) k3))))))) (r44_14 k2))))
noncomputable def r44_3 (k : KT R) : KT R := fun fr H => opn 14 fr (fun s0 s1 s2 s6 s7 s8 s9 s17 s19 s20 s21 s28 s40 s54 => 
(qLenL s1 fun v19 =>
k [s0, s1, s2, s6, s7, s8, s9, s17, v19, (.int .i64 0), s21, s28, s40, s54] H : R))
noncomputable def r44_2 (k : KT R) : KT R := fun fr H => opn 14 fr (fun s0 s1 s2 s6 s7 s8 s9 s17 s19 s20 s21 s28 s40 s54 => 
(k [s0, s1, s2, (.bool false), s7, s8, s9, s17, s19, s20, s21, s28, s40, s54] H : R))
noncomputable def r44_1 (C : CallF) (k : KT R) : KT R := fun fr H => opn 14 fr (fun s0 s1 s2 s6 s7 s8 s9 s17 s19 s20 s21 s28 s40 s54 => 
(qNew (.map []) .map H fun v14 H =>
qRes (C 80 [s0, s1, s2, v14] H) fun v15 H =>
qRes (C 79 [s0, v15, (.bool false)] H) fun v16 H =>
qNot v16 fun v17 =>
k [s0, s1, s2, s6, s7, s8, s9, v17, s19, s20, s21, s28, s40, s54] H : R))
noncomputable def r44_0 (k : KT R) : KT R := fun fr H => opn 14 fr (fun s0 s1 s2 s6 s7 s8 s9 s17 s19 s20 s21 s28 s40 s54 => 
(k [s0, s1, s2, (.bool false), s7, s8, s9, s17, s19, s20, s21, s28, s40, s54] H : R))
noncomputable def c44 (C : CallF) (l0 : List AV) (H : AH) (k : AV → AH → R) : R := opn 3 l0 (fun x0 x1 x2 => (qFn (fun kr => (r44_0 (r44_1 C (qCd (sel 7) (fun _ => (r44_2 kr)) (fun k9 => k9) (r44_3 (qBl (fun k1 => (qLoop (l44_8 C k1 kr))) (r44_15 kr)))))))
(fun fr H => k (sel 3 fr) H) [x0, x1, x2, undef, undef, undef, undef, undef, undef, undef, undef, undef, undef, undef] H : R))
/- (*refectory/cost.count).cost -/
noncomputable def r45_15 (k : KT R) : KT R := fun fr H => opn 14 fr (fun s0 s1 s2 s6 s7 s9 s10 s11 s12 s13 s14 s21 s29 s44 => 
(k [s0, s1, s2, s7, s7, s9, s10, s11, s12, s13, s14, s21, s29, s44] H : R))
noncomputable def r45_14 (k : KT R) : KT R := fun fr H => opn 14 fr (fun s0 s1 s2 s6 s7 s9 s10 s11 s12 s13 s14 s21 s29 s44 => 
(qAdd X 3 s13 (.int .i64 1) fun v56 =>
k [s0, s1, s2, s6, s7, s9, s10, s11, s12, v56, s14, s21, s29, s44] H : R))
noncomputable def r45_13 (C : CallF) (k : KT R) : KT R := fun fr H => opn 14 fr (fun s0 s1 s2 s6 s7 s9 s10 s11 s12 s13 s14 s21 s29 s44 => 
(qRes (C 84 [s7, s10, (.int .i64 1099511627776)] H) fun v55 H =>
k [s0, s1, s2, s6, v55, s9, s10, s11, s12, s13, s14, s21, s29, s44] H : R))
noncomputable def r45_8 (C : CallF) (k : KT R) : KT R := fun fr H => opn 14 fr (fun s0 s1 s2 s6 s7 s9 s10 s11 s12 s13 s14 s21 s29 s44 => 
(qFa 2 s9 fun v26 =>
qLd v26 H fun v27 =>
qRes (C 82 [s0, v27] H) fun v28 H =>
k [s0, s1, s2, s6, s7, s9, v28, s11, s12, s13, s14, s21, s29, s44] H : R))
noncomputable def r45_10 (C : CallF) (k : KT R) : KT R := fun fr H => opn 14 fr (fun s0 s1 s2 s6 s7 s9 s10 s11 s12 s13 s14 s21 s29 s44 => 
(qFa 6 s9 fun v39 =>
qLd v39 H fun v40 =>
qFa 3 s9 fun v41 =>
qLd v41 H fun v42 =>
qRes (C 45 [s0, v40, v42] H) fun v43 H =>
k [s0, s1, s2, s6, s7, s9, v43, s11, s12, s13, s14, s21, s29, s44] H : R))
noncomputable def r45_12 (C : CallF) (k : KT R) : KT R := fun fr H => opn 14 fr (fun s0 s1 s2 s6 s7 s9 s10 s11 s12 s13 s14 s21 s29 s44 => 
(qFa 6 s9 fun v49 =>
qLd v49 H fun v50 =>
qRes (C 45 [s0, v50, s2] H) fun v52 H =>
k [s0, s1, s2, s6, s7, s9, v52, s11, s12, s13, s14, s21, s29, s44] H : R))
noncomputable def r45_6 (C : CallF) (k : KT R) : KT R := fun fr H => opn 14 fr (fun s0 s1 s2 s6 s7 s9 s10 s11 s12 s13 s14 s21 s29 s44 => 
(qLdA 7 s9 H fun v18 =>
qRes (C 83 [s0, v18, s2] H) fun v20 H =>
k [s0, s1, s2, s6, s7, s9, v20, s11, s12, s13, s14, s21, s29, s44] H : R))
noncomputable def r45_11 (k : KT R) : KT R := fun fr H => opn 14 fr (fun s0 s1 s2 s6 s7 s9 s10 s11 s12 s13 s14 s21 s29 s44 => 
(qFa 0 s9 fun v45 =>
qLd v45 H fun v46 =>
qEql X 3 v46 (.int .i64 3) fun v47 =>
k [s0, s1, s2, s6, s7, s9, s10, s11, s12, s13, s14, s21, s29, v47] H : R))
noncomputable def r45_9 (k : KT R) : KT R := fun fr H => opn 14 fr (fun s0 s1 s2 s6 s7 s9 s10 s11 s12 s13 s14 s21 s29 s44 => 
(qFa 0 s9 fun v30 =>
qLd v30 H fun v31 =>
qEql X 3 v31 (.int .i64 3) fun v32 =>
qG v32 true (fun k => qFa 3 s9 fun v => k v H) H fun v34 H =>
qG v32 true (fun k => qLd v34 H fun v => k v H) H fun v35 H =>
qG v32 true (fun k => qNeq X 9 v35 (.str []) fun v => k v H) H fun v36 H =>
qPick v32 v36 (.bool false) fun v37 =>
k [s0, s1, s2, s6, s7, s9, s10, s11, s12, s13, s14, s21, v37, s44] H : R))
noncomputable def r45_7 (k : KT R) : KT R := fun fr H => opn 14 fr (fun s0 s1 s2 s6 s7 s9 s10 s11 s12 s13 s14 s21 s29 s44 => 
(qFa 0 s9 fun v22 =>
qLd v22 H fun v23 =>
qEql X 3 v23 (.int .i64 2) fun v24 =>
k [s0, s1, s2, s6, s7, s9, s10, s11, s12, s13, s14, v24, s29, s44] H : R))
noncomputable def r45_5 (k : KT R) : KT R := fun fr H => opn 14 fr (fun s0 s1 s2 s6 s7 s9 s10 s11 s12 s13 s14 s21 s29 s44 => 
(k [s0, s1, s2, s6, s7, s9, (.int .i64 0), s11, s12, s13, s14, s21, s29, s44] H : R))
noncomputable def r45_4 (k : KT R) : KT R := fun fr H => opn 14 fr (fun s0 s1 s2 s6 s7 s9 s10 s11 s12 s13 s14 s21 s29 s44 => 
(qIa 7 s11 s13 fun v15 =>
qLdA 7 v15 H fun v16 =>
qNew (.cells z36) .ptr H fun v9 H =>
qSt 7 v9 v16 H fun _ H =>
k [s0, s1, s2, s6, s7, v9, s10, s11, s12, s13, s14, s21, s29, s44] H : R))
noncomputable def r45_3 (k : KT R) : KT R := fun fr H => opn 14 fr (fun s0 s1 s2 s6 s7 s9 s10 s11 s12 s13 s14 s21 s29 s44 => 
(qLss X 3 s13 s12 fun v14 =>
k [s0, s1, s2, s6, s7, s9, s10, s11, s12, s13, v14, s21, s29, s44] H : R))
noncomputable def l45_8 (C : CallF) (k1 : KT R) : KT R → KT R := fun k2 => (r45_3 (qCd (sel 10) (fun k8 => k8) (fun _ => k1) (qBl (fun k3 => (r45_4 (r45_5 (qBl (fun k4 => (r45_7 (qCd (sel 11) (fun k5 => (r45_8 C k5)) (fun k5 => (r45_9 (qCd (sel 12) (fun k6 => (r45_10 C k6)) (fun k6 => (r45_11 (qCd (sel 13) (fun k7 => (r45_12 C k7)) (fun k7 => (r45_6 C k7)) k6))) k5))) k4))) (r45_13 C k3))))) (r45_14 k2))))
noncomputable def r45_2 (k : KT R) : KT R := fun fr H => opn 14 fr (fun s0 s1 s2 s6 s7 s9 s10 s11 s12 s13 s14 s21 s29 s44 => 
(qLenL s1 fun v12 =>
k [s0, s1, s2, s6, s7, s9, s10, s1, v12, (.int .i64 0), s14, s21, s29, s44] H : R))
noncomputable def r45_1 (k : KT R) : KT R := fun fr H => opn 14 fr (fun s0 s1 s2 s6 s7 s9 s10 s11 s12 s13 s14 s21 s29 s44 => 
(k [s0, s1, s2, s6, (.int .i64 0), s9, s10, s11, s12, s13, s14, s21, s29, s44] H : R))
noncomputable def r45_0 (k : KT R) : KT R := fun fr H => opn 14 fr (fun s0 s1 s2 s6 s7 s9 s10 s11 s12 s13 s14 s21 s29 s44 => 
(k [s0, s1, s2, (.int .i64 0), s7, s9, s10, s11, s12, s13, s14, s21, s29, s44] H : R))
noncomputable def c45 (C : CallF) (l0 : List AV) (H : AH) (k : AV → AH → R) : R := opn 3 l0 (fun x0 x1 x2 => (qFn (fun kr => (r45_0 (r45_1 (r45_2 (qBl (fun k1 => (qLoop (l45_8 C k1))) (r45_15 kr))))))
(fun fr H => k (sel 3 fr) H) [x0, x1, x2, undef, undef, undef, undef, undef, undef, undef, undef, undef, undef, undef] H : R))
/- (*refectory/cost.count).deep -/
noncomputable def r46_19 (k : KT R) : KT R := fun fr H => opn 17 fr (fun s0 s1 s4 s5 s7 s8 s9 s10 s12 s13 s14 s15 s19 s26 s31 s39 s52 => 
(qO (foldO min2 s5 [(.int .i64 1000)]) fun v85 =>
k [s0, s1, v85, s5, s7, s8, s9, s10, s12, s13, s14, s15, s19, s26, s31, s39, s52] H : R))
noncomputable def r46_18 (k : KT R) : KT R := fun fr H => opn 17 fr (fun s0 s1 s4 s5 s7 s8 s9 s10 s12 s13 s14 s15 s19 s26 s31 s39 s52 => 
(qAdd X 3 s14 (.int .i64 1) fun v83 =>
k [s0, s1, s4, s5, s7, s8, s9, s10, s12, s13, v83, s15, s19, s26, s31, s39, s52] H : R))
noncomputable def r46_9 (C : CallF) (k : KT R) : KT R := fun fr H => opn 17 fr (fun s0 s1 s4 s5 s7 s8 s9 s10 s12 s13 s14 s15 s19 s26 s31 s39 s52 => 
(qFa 6 s7 fun v34 =>
qLd v34 H fun v35 =>
qRes (C 46 [s0, v35] H) fun v36 H =>
qAdd X 3 (.int .i64 1) v36 fun v37 =>
qO (foldO max2 s5 [v37]) fun v38 =>
k [s0, s1, s4, v38, s7, s8, s9, s10, s12, s13, s14, s15, s19, s26, s31, s39, s52] H : R))
noncomputable def r46_8 (k : KT R) : KT R := fun fr H => opn 17 fr (fun s0 s1 s4 s5 s7 s8 s9 s10 s12 s13 s14 s15 s19 s26 s31 s39 s52 => 
(qFa 6 s7 fun v28 =>
qLd v28 H fun v29 =>
qLenL v29 fun v30 =>
qGtr X 3 v30 (.int .i64 0) fun v31 =>
k [s0, s1, s4, s5, s7, s8, s9, s10, s12, s13, s14, s15, s19, s26, v31, s39, s52] H : R))
noncomputable def r46_17 (k : KT R) : KT R := fun fr H => opn 17 fr (fun s0 s1 s4 s5 s7 s8 s9 s10 s12 s13 s14 s15 s19 s26 s31 s39 s52 => 
(qO (foldO max2 s5 [s8]) fun v82 =>
k [s0, s1, s4, v82, s7, s8, s9, s10, s12, s13, s14, s15, s19, s26, s31, s39, s52] H : R))
noncomputable def r46_16 (k : KT R) : KT R := fun fr H => opn 17 fr (fun s0 s1 s4 s5 s7 s8 s9 s10 s12 s13 s14 s15 s19 s26 s31 s39 s52 => 
(qNc s0 fun v74 =>
qFa 6 v74 fun v75 =>
qLd v75 H fun v76 =>
qFa 2 s7 fun v77 =>
qLd v77 H fun v78 =>
qMset X 52 v76 v78 s8 H fun _ H =>
k [s0, s1, s4, s5, s7, s8, s9, s10, s12, s13, s14, s15, s19, s26, s31, s39, s52] H : R))
noncomputable def r46_15 (C : CallF) (k : KT R) : KT R := fun fr H => opn 17 fr (fun s0 s1 s4 s5 s7 s8 s9 s10 s12 s13 s14 s15 s19 s26 s31 s39 s52 => 
(qFa 3 s10 fun v70 =>
qLd v70 H fun v71 =>
qRes (C 46 [s0, v71] H) fun v72 H =>
k [s0, s1, s4, s5, s7, v72, s9, s10, s12, s13, s14, s15, s19, s26, s31, s39, s52] H : R))
noncomputable def r46_14 (C : CallF) (k : KT R) : KT R := fun fr H => opn 17 fr (fun s0 s1 s4 s5 s7 s8 s9 s10 s12 s13 s14 s15 s19 s26 s31 s39 s52 => 
(qNc s0 fun v61 =>
qFa 3 v61 fun v62 =>
qLdA 2 v62 H fun v63 =>
qFa 2 s7 fun v64 =>
qLd v64 H fun v65 =>
qNew (.cells z67) .ptr H fun v10 H =>
qRes (C 37 [v63, v65] H) fun v66 H =>
qKeep z67 v10 H (qExt v66 0 fun v67 =>
qExt v66 1 fun v68 =>
qSt 4 v10 v67 H fun _ H =>
k [s0, s1, s4, s5, s7, s8, s9, v10, s12, s13, s14, s15, s19, s26, s31, s39, s52] H) : R))
noncomputable def r46_13 (k : KT R) : KT R := fun fr H => opn 17 fr (fun s0 s1 s4 s5 s7 s8 s9 s10 s12 s13 s14 s15 s19 s26 s31 s39 s52 => 
(qNc s0 fun v54 =>
qFa 6 v54 fun v55 =>
qLd v55 H fun v56 =>
qFa 2 s7 fun v57 =>
qLd v57 H fun v58 =>
qMset X 52 v56 v58 (.int .i64 0) H fun _ H =>
k [s0, s1, s4, s5, s7, s8, s9, s10, s12, s13, s14, s15, s19, s26, s31, s39, s52] H : R))
noncomputable def r46_12 (k : KT R) : KT R := fun fr H => opn 17 fr (fun s0 s1 s4 s5 s7 s8 s9 s10 s12 s13 s14 s15 s19 s26 s31 s39 s52 => 
(qNot s9 fun v52 =>
k [s0, s1, s4, s5, s7, s8, s9, s10, s12, s13, s14, s15, s19, s26, s31, s39, v52] H : R))
noncomputable def r46_11 (k : KT R) : KT R := fun fr H => opn 17 fr (fun s0 s1 s4 s5 s7 s8 s9 s10 s12 s13 s14 s15 s19 s26 s31 s39 s52 => 
(qNc s0 fun v43 =>
qFa 6 v43 fun v44 =>
qLd v44 H fun v45 =>
qFa 2 s7 fun v46 =>
qLd v46 H fun v47 =>
qO (lookup X 52 v45 v47 true H) fun v48 =>
qExt v48 0 fun v49 =>
qExt v48 1 fun v50 =>
k [s0, s1, s4, s5, s7, v49, v50, s10, s12, s13, s14, s15, s19, s26, s31, s39, s52] H : R))
noncomputable def r46_6 (C : CallF) (k : KT R) : KT R := fun fr H => opn 17 fr (fun s0 s1 s4 s5 s7 s8 s9 s10 s12 s13 s14 s15 s19 s26 s31 s39 s52 => 
(qFa 6 s7 fun v22 =>
qLd v22 H fun v23 =>
qRes (C 46 [s0, v23] H) fun v24 H =>
qO (foldO max2 s5 [v24]) fun v25 =>
k [s0, s1, s4, v25, s7, s8, s9, s10, s12, s13, s14, s15, s19, s26, s31, s39, s52] H : R))
noncomputable def r46_10 (k : KT R) : KT R := fun fr H => opn 17 fr (fun s0 s1 s4 s5 s7 s8 s9 s10 s12 s13 s14 s15 s19 s26 s31 s39 s52 => 
(qEql X 3 s19 (.int .i64 2) fun v40 =>
k [s0, s1, s4, s5, s7, s8, s9, s10, s12, s13, s14, s15, s19, s26, s31, v40, s52] H : R))
noncomputable def r46_7 (k : KT R) : KT R := fun fr H => opn 17 fr (fun s0 s1 s4 s5 s7 s8 s9 s10 s12 s13 s14 s15 s19 s26 s31 s39 s52 => 
(qEql X 3 s19 (.int .i64 1) fun v27 =>
k [s0, s1, s4, s5, s7, s8, s9, s10, s12, s13, s14, s15, s19, v27, s31, s39, s52] H : R))
noncomputable def r46_5 (k : KT R) : KT R := fun fr H => opn 17 fr (fun s0 s1 s4 s5 s7 s8 s9 s10 s12 s13 s14 s15 s19 s26 s31 s39 s52 => 
(qFa 0 s7 fun v18 =>
qLd v18 H fun v19 =>
k [s0, s1, s4, s5, s7, s8, s9, s10, s12, s13, s14, s15, v19, s26, s31, s39, s52] H : R))
noncomputable def r46_4 (k : KT R) : KT R := fun fr H => opn 17 fr (fun s0 s1 s4 s5 s7 s8 s9 s10 s12 s13 s14 s15 s19 s26 s31 s39 s52 => 
(qIa 7 s12 s14 fun v16 =>
qLdA 7 v16 H fun v17 =>
qNew (.cells z36) .ptr H fun v7 H =>
qSt 7 v7 v17 H fun _ H =>
k [s0, s1, s4, s5, v7, s8, s9, s10, s12, s13, s14, s15, s19, s26, s31, s39, s52] H : R))
noncomputable def r46_3 (k : KT R) : KT R := fun fr H => opn 17 fr (fun s0 s1 s4 s5 s7 s8 s9 s10 s12 s13 s14 s15 s19 s26 s31 s39 s52 => 
(qLss X 3 s14 s13 fun v15 =>
k [s0, s1, s4, s5, s7, s8, s9, s10, s12, s13, s14, v15, s19, s26, s31, s39, s52] H : R))
noncomputable def l46_9 (C : CallF) (k1 : KT R) : KT R → KT R := fun k2 => (r46_3 (qCd (sel 11) (fun k9 => k9) (fun _ => k1) (qBl (fun k3 => (r46_4 (r46_5 (qBl (fun k4 => (r46_7 (qCd (sel 13) (fun k5 => (r46_8 (qCd (sel 14) (fun k6 => (r46_9 C k6)) (fun k6 => k6) k5))) (fun k5 => (r46_10 (qCd (sel 15) (fun k7 => (r46_11 (r46_12 (qCd (sel 16) (fun k8 => (r46_13 (r46_14 C (r46_15 C (r46_16 k8))))) (fun k8 => k8) (r46_17 k7))))) (fun k7 => (r46_6 C k7)) k5))) k4))) k3)))) (r46_18 k2))))
noncomputable def r46_2 (k : KT R) : KT R := fun fr H => opn 17 fr (fun s0 s1 s4 s5 s7 s8 s9 s10 s12 s13 s14 s15 s19 s26 s31 s39 s52 => 
(qLenL s1 fun v13 =>
k [s0, s1, s4, s5, s7, s8, s9, s10, s1, v13, (.int .i64 0), s15, s19, s26, s31, s39, s52] H : R))
noncomputable def r46_1 (k : KT R) : KT R := fun fr H => opn 17 fr (fun s0 s1 s4 s5 s7 s8 s9 s10 s12 s13 s14 s15 s19 s26 s31 s39 s52 => 
(k [s0, s1, s4, (.int .i64 0), s7, s8, s9, s10, s12, s13, s14, s15, s19, s26, s31, s39, s52] H : R))
noncomputable def r46_0 (k : KT R) : KT R := fun fr H => opn 17 fr (fun s0 s1 s4 s5 s7 s8 s9 s10 s12 s13 s14 s15 s19 s26 s31 s39 s52 => 
(k [s0, s1, (.int .i64 0), s5, s7, s8, s9, s10, s12, s13, s14, s15, s19, s26, s31, s39, s52] H : R))
noncomputable def c46 (C : CallF) (l0 : List AV) (H : AH) (k : AV → AH → R) : R := opn 2 l0 (fun x0 x1 => (qFn (fun kr => (r46_0 (r46_1 (r46_2 (qBl (fun k1 => (qLoop (l46_9 C k1))) (r46_19 kr))))))
(fun fr H => k (sel 2 fr) H) [x0, x1, undef, undef, undef, undef, undef, undef, undef, undef, undef, undef, undef, undef, undef, undef, undef] H : R))
/- refectory/refectoryref08.said -/
noncomputable def r47_1 (k : KT R) : KT R := fun fr H => opn 2 fr (fun s0 s4 => 
(qNc s0 fun v6 =>
qFa 1 v6 fun v7 =>
qLd v7 H fun v8 =>
qAdd X 3 v8 (.int .i64 1) fun v9 =>
qNc s0 fun v10 =>
qFa 1 v10 fun v11 =>
qSt 1 v11 v9 H fun _ H =>
k [s0, s4] H : R))
noncomputable def r47_0 (C : CallF) (k : KT R) : KT R := fun fr H => opn 2 fr (fun s0 s4 => 
(qRes (C 58 [s0] H) fun v3 H =>
qEql X 3 v3 (.int .i64 4) fun v4 =>
k [s0, v4] H : R))
noncomputable def c47 (C : CallF) (l0 : List AV) (H : AH) (k : AV → AH → R) : R := opn 1 l0 (fun x0 => (qFn (fun kr => (r47_0 C (qCd (sel 1) (fun k1 => (r47_1 k1)) (fun k1 => k1) kr)))
(fun fr H => k (.tup []) H) [x0, undef] H : R))
/- (*refectory/refectoryref05.P).Take -/
noncomputable def r48_4 (k : KT R) : KT R := fun fr H => opn 6 fr (fun s0 s1 s2 s6 s7 s12 => 
(k [s0, s1, s2, s7, s7, s12] H : R))
noncomputable def r48_3 (k : KT R) : KT R := fun fr H => opn 6 fr (fun s0 s1 s2 s6 s7 s12 => 
(qNc s0 fun v14 =>
qFa 1 v14 fun v15 =>
qLd v15 H fun v16 =>
qAdd X 3 v16 (.int .i64 1) fun v17 =>
qNc s0 fun v18 =>
qFa 1 v18 fun v19 =>
qSt 1 v19 v17 H fun _ H =>
k [s0, s1, s2, s6, s7, s12] H : R))
noncomputable def r48_2 (k : KT R) : KT R := fun fr H => opn 6 fr (fun s0 s1 s2 s6 s7 s12 => 
(k [s0, s1, s2, s6, s7, s7] H : R))
noncomputable def r48_1 (C : CallF) (k : KT R) : KT R := fun fr H => opn 6 fr (fun s0 s1 s2 s6 s7 s12 => 
(qRes (C 55 [s0, s1, s2] H) fun v11 H =>
k [s0, s1, s2, s6, v11, s12] H : R))
noncomputable def r48_0 (k : KT R) : KT R := fun fr H => opn 6 fr (fun s0 s1 s2 s6 s7 s12 => 
(k [s0, s1, s2, (.bool false), s7, s12] H : R))
noncomputable def c48 (C : CallF) (l0 : List AV) (H : AH) (k : AV → AH → R) : R := opn 3 l0 (fun x0 x1 x2 => (qFn (fun kr => (r48_0 (r48_1 C (r48_2 (qCd (sel 5) (fun k1 => (r48_3 k1)) (fun k1 => k1) (r48_4 kr))))))
(fun fr H => k (sel 3 fr) H) [x0, x1, x2, undef, undef, undef] H : R))
/- refectory/refectoryref08.roots -/
noncomputable def r49_8 (C : CallF) (k : KT R) : KT R := fun fr H => opn 4 fr (fun s0 s1 s8 s19 => 
(qRes (C 85 [s0, (.str [125])] H) fun v28 H =>
k [s0, s1, s8, s19] H : R))
noncomputable def r49_7 (C : CallF) (k : KT R) : KT R := fun fr H => opn 4 fr (fun s0 s1 s8 s19 => 
(qRes (C 57 [s0] H) fun v24 H =>
qNc s1 fun v25 =>
qFa 1 v25 fun v26 =>
qSt 1 v26 v24 H fun _ H =>
k [s0, s1, s8, s19] H : R))
noncomputable def r49_6 (C : CallF) (k : KT R) : KT R := fun fr H => opn 4 fr (fun s0 s1 s8 s19 => 
(qRes (C 85 [s0, (.str [58])] H) fun v21 H =>
k [s0, s1, s8, s19] H : R))
noncomputable def r49_5 (C : CallF) (k : KT R) : KT R := fun fr H => opn 4 fr (fun s0 s1 s8 s19 => 
(qRes (C 48 [s0, (.int .i64 1), (.str [109,117,116,97,116,105,111,110])] H) fun v19 H =>
k [s0, s1, s8, v19] H : R))
noncomputable def r49_4 (C : CallF) (k : KT R) : KT R := fun fr H => opn 4 fr (fun s0 s1 s8 s19 => 
(qRes (C 57 [s0] H) fun v15 H =>
qNc s1 fun v16 =>
qFa 0 v16 fun v17 =>
qSt 1 v17 v15 H fun _ H =>
k [s0, s1, s8, s19] H : R))
noncomputable def r49_3 (C : CallF) (k : KT R) : KT R := fun fr H => opn 4 fr (fun s0 s1 s8 s19 => 
(qRes (C 85 [s0, (.str [58])] H) fun v12 H =>
k [s0, s1, s8, s19] H : R))
noncomputable def r49_2 (C : CallF) (k : KT R) : KT R := fun fr H => opn 4 fr (fun s0 s1 s8 s19 => 
(qRes (C 61 [s0] H) fun v10 H =>
k [s0, s1, s8, s19] H : R))
noncomputable def r49_1 (C : CallF) (k : KT R) : KT R := fun fr H => opn 4 fr (fun s0 s1 s8 s19 => 
(qRes (C 48 [s0, (.int .i64 1), (.str [113,117,101,114,121])] H) fun v7 H =>
qNot v7 fun v8 =>
k [s0, s1, v8, s19] H : R))
noncomputable def r49_0 (C : CallF) (k : KT R) : KT R := fun fr H => opn 4 fr (fun s0 s1 s8 s19 => 
(qRes (C 85 [s0, (.str [123])] H) fun v5 H =>
k [s0, s1, s8, s19] H : R))
noncomputable def c49 (C : CallF) (l0 : List AV) (H : AH) (k : AV → AH → R) : R := opn 2 l0 (fun x0 x1 => (qFn (fun kr => (r49_0 C (r49_1 C (qCd (sel 2) (fun k2 => (r49_2 C k2)) (fun k2 => k2) (r49_3 C (r49_4 C (r49_5 C (qCd (sel 3) (fun k1 => (r49_6 C (r49_7 C k1))) (fun k1 => k1) (r49_8 C kr)))))))))
(fun fr H => k (.tup []) H) [x0, x1, undef, undef] H : R))
/- refectory/refectoryref08.def -/
noncomputable def r50_23 (k : KT R) : KT R := fun fr H => opn 10 fr (fun s0 s2 s3 s7 s14 s22 s29 s39 s51 s61 => 
(qLdA 5 s3 H fun v71 =>
qSt 5 s2 v71 H fun _ H =>
k [s0, s2, s3, s7, s14, s22, s29, s39, s51, s61] H : R))
noncomputable def r50_4 (C : CallF) (k : KT R) : KT R := fun fr H => opn 10 fr (fun s0 s2 s3 s7 s14 s22 s29 s39 s51 s61 => 
(qRes (C 57 [s0] H) fun v11 H =>
qFa 0 s3 fun v12 =>
qSt 1 v12 (.int .i64 1) H fun _ H =>
qFa 1 s3 fun v13 =>
qSt 1 v13 v11 H fun _ H =>
k [s0, s2, s3, s7, s14, s22, s29, s39, s51, s61] H : R))
noncomputable def r50_9 (C : CallF) (k : KT R) : KT R := fun fr H => opn 10 fr (fun s0 s2 s3 s7 s14 s22 s29 s39 s51 s61 => 
(qRes (C 87 [s0] H) fun v27 H =>
qFa 3 s3 fun v28 =>
qSt 1 v28 v27 H fun _ H =>
k [s0, s2, s3, s7, s14, s22, s29, s39, s51, s61] H : R))
noncomputable def r50_8 (C : CallF) (k : KT R) : KT R := fun fr H => opn 10 fr (fun s0 s2 s3 s7 s14 s22 s29 s39 s51 s61 => 
(qRes (C 86 [s0, (.str [38])] H) fun v24 H =>
qFa 2 s3 fun v25 =>
qSt 1 v25 v24 H fun _ H =>
k [s0, s2, s3, s7, s14, s22, s29, s39, s51, s61] H : R))
noncomputable def r50_7 (C : CallF) (k : KT R) : KT R := fun fr H => opn 10 fr (fun s0 s2 s3 s7 s14 s22 s29 s39 s51 s61 => 
(qRes (C 48 [s0, (.int .i64 1), (.str [105,109,112,108,101,109,101,110,116,115])] H) fun v22 H =>
k [s0, s2, s3, s7, s14, v22, s29, s39, s51, s61] H : R))
noncomputable def r50_6 (C : CallF) (k : KT R) : KT R := fun fr H => opn 10 fr (fun s0 s2 s3 s7 s14 s22 s29 s39 s51 s61 => 
(qRes (C 57 [s0] H) fun v18 H =>
qFa 0 s3 fun v19 =>
qSt 1 v19 (.int .i64 2) H fun _ H =>
qFa 1 s3 fun v20 =>
qSt 1 v20 v18 H fun _ H =>
k [s0, s2, s3, s7, s14, s22, s29, s39, s51, s61] H : R))
noncomputable def r50_12 (C : CallF) (k : KT R) : KT R := fun fr H => opn 10 fr (fun s0 s2 s3 s7 s14 s22 s29 s39 s51 s61 => 
(qRes (C 87 [s0] H) fun v37 H =>
qFa 3 s3 fun v38 =>
qSt 1 v38 v37 H fun _ H =>
k [s0, s2, s3, s7, s14, s22, s29, s39, s51, s61] H : R))
noncomputable def r50_11 (C : CallF) (k : KT R) : KT R := fun fr H => opn 10 fr (fun s0 s2 s3 s7 s14 s22 s29 s39 s51 s61 => 
(qRes (C 57 [s0] H) fun v33 H =>
qFa 0 s3 fun v34 =>
qSt 1 v34 (.int .i64 3) H fun _ H =>
qFa 1 s3 fun v35 =>
qSt 1 v35 v33 H fun _ H =>
k [s0, s2, s3, s7, s14, s22, s29, s39, s51, s61] H : R))
noncomputable def r50_16 (C : CallF) (k : KT R) : KT R := fun fr H => opn 10 fr (fun s0 s2 s3 s7 s14 s22 s29 s39 s51 s61 => 
(qRes (C 86 [s0, (.str [124])] H) fun v49 H =>
qFa 2 s3 fun v50 =>
qSt 1 v50 v49 H fun _ H =>
k [s0, s2, s3, s7, s14, s22, s29, s39, s51, s61] H : R))
noncomputable def r50_15 (C : CallF) (k : KT R) : KT R := fun fr H => opn 10 fr (fun s0 s2 s3 s7 s14 s22 s29 s39 s51 s61 => 
(qRes (C 85 [s0, (.str [61])] H) fun v47 H =>
k [s0, s2, s3, s7, s14, s22, s29, s39, s51, s61] H : R))
noncomputable def r50_14 (C : CallF) (k : KT R) : KT R := fun fr H => opn 10 fr (fun s0 s2 s3 s7 s14 s22 s29 s39 s51 s61 => 
(qRes (C 57 [s0] H) fun v43 H =>
qFa 0 s3 fun v44 =>
qSt 1 v44 (.int .i64 4) H fun _ H =>
qFa 1 s3 fun v45 =>
qSt 1 v45 v43 H fun _ H =>
k [s0, s2, s3, s7, s14, s22, s29, s39, s51, s61] H : R))
noncomputable def r50_19 (C : CallF) (k : KT R) : KT R := fun fr H => opn 10 fr (fun s0 s2 s3 s7 s14 s22 s29 s39 s51 s61 => 
(qRes (C 88 [s0] H) fun v59 H =>
qFa 2 s3 fun v60 =>
qSt 1 v60 v59 H fun _ H =>
k [s0, s2, s3, s7, s14, s22, s29, s39, s51, s61] H : R))
noncomputable def r50_18 (C : CallF) (k : KT R) : KT R := fun fr H => opn 10 fr (fun s0 s2 s3 s7 s14 s22 s29 s39 s51 s61 => 
(qRes (C 57 [s0] H) fun v55 H =>
qFa 0 s3 fun v56 =>
qSt 1 v56 (.int .i64 5) H fun _ H =>
qFa 1 s3 fun v57 =>
qSt 1 v57 v55 H fun _ H =>
k [s0, s2, s3, s7, s14, s22, s29, s39, s51, s61] H : R))
noncomputable def r50_22 (C : CallF) (k : KT R) : KT R := fun fr H => opn 10 fr (fun s0 s2 s3 s7 s14 s22 s29 s39 s51 s61 => 
(qRes (C 89 [s0, (.str [123]), (.str [125])] H) fun v69 H =>
qFa 4 s3 fun v70 =>
qSt 1 v70 v69 H fun _ H =>
k [s0, s2, s3, s7, s14, s22, s29, s39, s51, s61] H : R))
noncomputable def r50_21 (C : CallF) (k : KT R) : KT R := fun fr H => opn 10 fr (fun s0 s2 s3 s7 s14 s22 s29 s39 s51 s61 => 
(qRes (C 57 [s0] H) fun v65 H =>
qFa 0 s3 fun v66 =>
qSt 1 v66 (.int .i64 6) H fun _ H =>
qFa 1 s3 fun v67 =>
qSt 1 v67 v65 H fun _ H =>
k [s0, s2, s3, s7, s14, s22, s29, s39, s51, s61] H : R))
noncomputable def r50_2 (C : CallF) (k : KT R) : KT R := fun fr H => opn 10 fr (fun s0 s2 s3 s7 s14 s22 s29 s39 s51 s61 => 
(qRes (C 61 [s0] H) fun v6 H =>
k [s0, s2, s3, s7, s14, s22, s29, s39, s51, s61] H : R))
noncomputable def r50_20 (C : CallF) (k : KT R) : KT R := fun fr H => opn 10 fr (fun s0 s2 s3 s7 s14 s22 s29 s39 s51 s61 => 
(qRes (C 48 [s0, (.int .i64 1), (.str [105,110,112,117,116])] H) fun v63 H =>
k [s0, s2, s3, s7, s14, s22, s29, s39, s51, v63] H : R))
noncomputable def r50_17 (C : CallF) (k : KT R) : KT R := fun fr H => opn 10 fr (fun s0 s2 s3 s7 s14 s22 s29 s39 s51 s61 => 
(qRes (C 48 [s0, (.int .i64 1), (.str [101,110,117,109])] H) fun v53 H =>
k [s0, s2, s3, s7, s14, s22, s29, s39, v53, s61] H : R))
noncomputable def r50_13 (C : CallF) (k : KT R) : KT R := fun fr H => opn 10 fr (fun s0 s2 s3 s7 s14 s22 s29 s39 s51 s61 => 
(qRes (C 48 [s0, (.int .i64 1), (.str [117,110,105,111,110])] H) fun v41 H =>
k [s0, s2, s3, s7, s14, s22, s29, v41, s51, s61] H : R))
noncomputable def r50_10 (C : CallF) (k : KT R) : KT R := fun fr H => opn 10 fr (fun s0 s2 s3 s7 s14 s22 s29 s39 s51 s61 => 
(qRes (C 48 [s0, (.int .i64 1), (.str [105,110,116,101,114,102,97,99,101])] H) fun v31 H =>
k [s0, s2, s3, s7, s14, s22, v31, s39, s51, s61] H : R))
noncomputable def r50_5 (C : CallF) (k : KT R) : KT R := fun fr H => opn 10 fr (fun s0 s2 s3 s7 s14 s22 s29 s39 s51 s61 => 
(qRes (C 48 [s0, (.int .i64 1), (.str [116,121,112,101])] H) fun v16 H =>
k [s0, s2, s3, s7, v16, s22, s29, s39, s51, s61] H : R))
noncomputable def r50_3 (C : CallF) (k : KT R) : KT R := fun fr H => opn 10 fr (fun s0 s2 s3 s7 s14 s22 s29 s39 s51 s61 => 
(qRes (C 48 [s0, (.int .i64 1), (.str [115,99,97,108,97,114])] H) fun v9 H =>
k [s0, s2, s3, v9, s14, s22, s29, s39, s51, s61] H : R))
noncomputable def r50_1 (k : KT R) : KT R := fun fr H => opn 10 fr (fun s0 s2 s3 s7 s14 s22 s29 s39 s51 s61 => 
(qBld z110 [] fun v4 =>
qNew (.cells z110) .ptr H fun v3 H =>
qSt 5 v3 v4 H fun _ H =>
k [s0, s2, v3, s7, s14, s22, s29, s39, s51, s61] H : R))
noncomputable def r50_0 (k : KT R) : KT R := fun fr H => opn 10 fr (fun s0 s2 s3 s7 s14 s22 s29 s39 s51 s61 => 
(qNew (.cells z110) .ptr H fun v2 H =>
k [s0, v2, s3, s7, s14, s22, s29, s39, s51, s61] H : R))
noncomputable def c50 (C : CallF) (l0 : List AV) (H : AH) (k : AV → AH → R) : R := opn 1 l0 (fun x0 => (qFn (fun kr => (r50_0 (r50_1 (qBl (fun k1 => (r50_3 C (qCd (sel 3) (fun k2 => (r50_4 C k2)) (fun k2 => (r50_5 C (qCd (sel 4) (fun k3 => (r50_6 C (r50_7 C (qCd (sel 5) (fun k4 => (r50_8 C k4)) (fun k4 => k4) (r50_9 C k3))))) (fun k3 => (r50_10 C (qCd (sel 6) (fun k5 => (r50_11 C (r50_12 C k5))) (fun k5 => (r50_13 C (qCd (sel 7) (fun k6 => (r50_14 C (r50_15 C (r50_16 C k6)))) (fun k6 => (r50_17 C (qCd (sel 8) (fun k7 => (r50_18 C (r50_19 C k7))) (fun k7 => (r50_20 C (qCd (sel 9) (fun k8 => (r50_21 C (r50_22 C k8))) (fun k8 => (r50_2 C k8)) k7))) k6))) k5))) k3))) k2))) k1))) (r50_23 kr)))))
(fun fr H => qPtr (sel 1 fr) (qLdA 5 (sel 1 fr) H fun w0 => k w0 H)) [x0, undef, undef, undef, undef, undef, undef, undef, undef, undef] H : R))
/- (*refectory/collect.gather).out -/
noncomputable def r51_1 (C : CallF) (k : KT R) : KT R := fun fr H => opn 5 fr (fun s0 s1 s2 s3 s4 => 
(qFa 5 s3 fun v5 =>
qLd v5 H fun v6 =>
qRes (C 90 [v6, (.fn (.func 91) [] [s2])] H) fun v8 H =>
k [s0, s1, s2, s3, v8] H : R))
noncomputable def r51_0 (k : KT R) : KT R := fun fr H => opn 5 fr (fun s0 s1 s2 s3 s4 => 
(qBox s0 H fun v2 H =>
qBox s1 H fun v3 H =>
k [s0, s1, v2, v3, (.bool false)] H : R))
noncomputable def c51 (C : CallF) (l0 : List AV) (H : AH) (k : AV → AH → R) : R := opn 2 l0 (fun x0 x1 => (qFn (fun kr => (r51_0 (r51_1 C kr)))
(fun fr H => k (sel 4 fr) H) [x0, x1, undef, undef, undef] H : R))
/- (*refectory/collect.gather).fits -/
noncomputable def r53_1 (C : CallF) (k : KT R) : KT R := fun fr H => opn 3 fr (fun s0 s1 s4 => 
(qNc s0 fun v6 =>
qFa 0 v6 fun v7 =>
qLdA 3 v7 H fun v8 =>
qNc s0 fun v12 =>
qFa 5 v12 fun v13 =>
qLd v13 H fun v14 =>
qRes (C 93 [v8, s1] H) fun v10 H =>
qLd v13 H fun w => qSame v14 w (qRes (C 71 [v10, v14] H) fun v15 H =>
k [s0, s1, v15] H) : R))
noncomputable def r53_0 (k : KT R) : KT R := fun fr H => opn 3 fr (fun s0 s1 s4 => 
(k [s0, s1, (.bool false)] H : R))
noncomputable def c53 (C : CallF) (l0 : List AV) (H : AH) (k : AV → AH → R) : R := opn 2 l0 (fun x0 x1 => (qFn (fun kr => (r53_0 (r53_1 C kr)))
(fun fr H => k (sel 2 fr) H) [x0, x1, undef] H : R))
/- refectory/refectoryref04.one -/
noncomputable def r54_24 (k : KT R) : KT R := fun fr H => opn 22 fr (fun s0 s1 s4 s5 s6 s7 s8 s9 s10 s11 s12 s13 s14 s19 s37 s51 s67 s78 s95 s110 s129 s135 => 
(qBld z97 [] fun v145 =>
qSt 3 s4 v145 H fun _ H =>
k [s0, s1, s4, s1, (.bool false), s7, s8, s9, s10, s11, s12, s13, s14, s19, s37, s51, s67, s78, s95, s110, s129, s135] H : R))
noncomputable def r54_21 (k : KT R) : KT R := fun fr H => opn 22 fr (fun s0 s1 s4 s5 s6 s7 s8 s9 s10 s11 s12 s13 s14 s19 s37 s51 s67 s78 s95 s110 s129 s135 => 
(qAdd X 3 s14 (.int .i64 1) fun v131 =>
k [s0, s1, s4, s5, s6, s7, s8, s9, s10, s11, s12, s13, v131, s19, s37, s51, s67, s78, s95, s110, s129, s135] H : R))
noncomputable def r54_23 (k : KT R) : KT R := fun fr H => opn 22 fr (fun s0 s1 s4 s5 s6 s7 s8 s9 s10 s11 s12 s13 s14 s19 s37 s51 s67 s78 s95 s110 s129 s135 => 
(qAdd X 3 s1 (.int .i64 1) fun v139 =>
qSlc Try.t9.desc 0 s0 (some s1) (some v139) none fun v140 =>
qBld z97 [(0, 1, (.int .i64 5)), (1, 1, v140), (2, 1, s1)] fun v142 =>
qAdd X 3 s1 (.int .i64 1) fun v144 =>
qSt 3 s4 v142 H fun _ H =>
k [s0, s1, s4, v144, (.bool true), s7, s8, s9, s10, s11, s12, s13, s14, s19, s37, s51, s67, s78, s95, s110, s129, s135] H : R))
noncomputable def r54_22 (k : KT R) : KT R := fun fr H => opn 22 fr (fun s0 s1 s4 s5 s6 s7 s8 s9 s10 s11 s12 s13 s14 s19 s37 s51 s67 s78 s95 s110 s129 s135 => 
(qIx (.str [33,36,38,40,41,58,61,64,91,93,123,124,125]) s14 fun v133 =>
qEql X 5 v133 s7 fun v135 =>
k [s0, s1, s4, s5, s6, s7, s8, s9, s10, s11, s12, s13, s14, s19, s37, s51, s67, s78, s95, s110, s129, v135] H : R))
noncomputable def r54_20 (k : KT R) : KT R := fun fr H => opn 22 fr (fun s0 s1 s4 s5 s6 s7 s8 s9 s10 s11 s12 s13 s14 s19 s37 s51 s67 s78 s95 s110 s129 s135 => 
(qLss X 3 s14 (.int .i64 13) fun v129 =>
k [s0, s1, s4, s5, s6, s7, s8, s9, s10, s11, s12, s13, s14, s19, s37, s51, s67, s78, s95, s110, v129, s135] H : R))
noncomputable def l54_5 (k1 : KT R) (kr : KT R) : KT R → KT R := fun k2 => (r54_20 (qCd (sel 20) (fun k5 => k5) (fun _ => k1) (qBl (fun k3 => (r54_22 (qCd (sel 21) (fun _ => (r54_23 kr)) (fun k4 => k4) k3))) (r54_21 k2))))
noncomputable def r54_19 (k : KT R) : KT R := fun fr H => opn 22 fr (fun s0 s1 s4 s5 s6 s7 s8 s9 s10 s11 s12 s13 s14 s19 s37 s51 s67 s78 s95 s110 s129 s135 => 
(k [s0, s1, s4, s5, s6, s7, s8, s9, s10, s11, s12, s13, (.int .i64 0), s19, s37, s51, s67, s78, s95, s110, s129, s135] H : R))
noncomputable def r54_6 (k : KT R) : KT R := fun fr H => opn 22 fr (fun s0 s1 s4 s5 s6 s7 s8 s9 s10 s11 s12 s13 s14 s19 s37 s51 s67 s78 s95 s110 s129 s135 => 
(qSlc Try.t9.desc 0 s0 (some s1) (some s8) none fun v43 =>
qBld z97 [(0, 1, (.int .i64 1)), (1, 1, v43), (2, 1, s1)] fun v45 =>
qSub X 3 s8 s1 fun v49 =>
qLeq X 3 v49 (.int .i64 40) fun v50 =>
qSt 3 s4 v45 H fun _ H =>
k [s0, s1, s4, s8, v50, s7, s8, s9, s10, s11, s12, s13, s14, s19, s37, s51, s67, s78, s95, s110, s129, s135] H : R))
noncomputable def r54_5 (k : KT R) : KT R := fun fr H => opn 22 fr (fun s0 s1 s4 s5 s6 s7 s8 s9 s10 s11 s12 s13 s14 s19 s37 s51 s67 s78 s95 s110 s129 s135 => 
(qAdd X 3 s8 (.int .i64 1) fun v39 =>
k [s0, s1, s4, s5, s6, s7, v39, s9, s10, s11, s12, s13, s14, s19, s37, s51, s67, s78, s95, s110, s129, s135] H : R))
noncomputable def r54_4 (C : CallF) (k : KT R) : KT R := fun fr H => opn 22 fr (fun s0 s1 s4 s5 s6 s7 s8 s9 s10 s11 s12 s13 s14 s19 s37 s51 s67 s78 s95 s110 s129 s135 => 
(qLenS s0 fun v24 =>
qLss X 3 s8 v24 fun v25 =>
qG v25 true (fun k => k s0 H) H fun v27 H =>
qG v25 true (fun k => k s8 H) H fun v28 H =>
qG v25 true (fun k => qIx v27 v28 fun v => k v H) H fun v29 H =>
qG v25 true (fun k => qRes (C 94 [v29] H) k) H fun v30 H =>
qG v25 true (fun k => k v30 H) H fun v31 H =>
qG v31 false (fun k => k s0 H) H fun v32 H =>
qG v31 false (fun k => k s8 H) H fun v33 H =>
qG v31 false (fun k => qIx v32 v33 fun v => k v H) H fun v34 H =>
qG v31 false (fun k => qRes (C 95 [v34] H) k) H fun v35 H =>
qG v25 true (fun k => qPick v31 (.bool true) v35 fun v => k v H) H fun v36 H =>
qPick v25 v36 (.bool false) fun v37 =>
k [s0, s1, s4, s5, s6, s7, s8, s9, s10, s11, s12, s13, s14, s19, v37, s51, s67, s78, s95, s110, s129, s135] H : R))
noncomputable def l54_11 (C : CallF) (k8 : KT R) : KT R → KT R := fun k9 => (r54_4 C (qCd (sel 14) (fun k11 => k11) (fun _ => k8) (qBl (fun k10 => (r54_5 k10)) k9)))
noncomputable def r54_13 (k : KT R) : KT R := fun fr H => opn 22 fr (fun s0 s1 s4 s5 s6 s7 s8 s9 s10 s11 s12 s13 s14 s19 s37 s51 s67 s78 s95 s110 s129 s135 => 
(qSlc Try.t9.desc 0 s0 (some s1) (some s8) none fun v90 =>
qBld z97 [(0, 1, (.int .i64 3)), (1, 1, v90), (2, 1, s1)] fun v92 =>
qSt 3 s4 v92 H fun _ H =>
k [s0, s1, s4, s8, s10, s7, s8, s9, s10, s11, s12, s13, s14, s19, s37, s51, s67, s78, s95, s110, s129, s135] H : R))
noncomputable def r54_12 (k : KT R) : KT R := fun fr H => opn 22 fr (fun s0 s1 s4 s5 s6 s7 s8 s9 s10 s11 s12 s13 s14 s19 s37 s51 s67 s78 s95 s110 s129 s135 => 
(qSlc Try.t9.desc 0 s0 (some s1) (some s8) none fun v82 =>
qBld z97 [(0, 1, (.int .i64 2)), (1, 1, v82), (2, 1, s1)] fun v84 =>
qSt 3 s4 v84 H fun _ H =>
k [s0, s1, s4, s8, s10, s7, s8, s9, s10, s11, s12, s13, s14, s19, s37, s51, s67, s78, s95, s110, s129, s135] H : R))
noncomputable def r54_11 (k : KT R) : KT R := fun fr H => opn 22 fr (fun s0 s1 s4 s5 s6 s7 s8 s9 s10 s11 s12 s13 s14 s19 s37 s51 s67 s78 s95 s110 s129 s135 => 
(k [s0, s1, s4, s5, s6, s7, s8, s9, s10, s11, s12, s13, s14, s19, s37, s51, s67, s9, s95, s110, s129, s135] H : R))
noncomputable def r54_10 (C : CallF) (k : KT R) : KT R := fun fr H => opn 22 fr (fun s0 s1 s4 s5 s6 s7 s8 s9 s10 s11 s12 s13 s14 s19 s37 s51 s67 s78 s95 s110 s129 s135 => 
(qSlc Try.t9.desc 0 s0 (some s1) (some s8) none fun v74 =>
qRes (C 97 [v74] H) fun v75 H =>
qExt v75 0 fun v76 =>
qExt v75 1 fun v77 =>
k [s0, s1, s4, s5, s6, s7, s8, v76, v77, s11, s12, s13, s14, s19, s37, s51, s67, s78, s95, s110, s129, s135] H : R))
noncomputable def r54_9 (k : KT R) : KT R := fun fr H => opn 22 fr (fun s0 s1 s4 s5 s6 s7 s8 s9 s10 s11 s12 s13 s14 s19 s37 s51 s67 s78 s95 s110 s129 s135 => 
(qAdd X 3 s8 (.int .i64 1) fun v69 =>
k [s0, s1, s4, s5, s6, s7, v69, s9, s10, s11, s12, s13, s14, s19, s37, s51, s67, s78, s95, s110, s129, s135] H : R))
noncomputable def r54_8 (C : CallF) (k : KT R) : KT R := fun fr H => opn 22 fr (fun s0 s1 s4 s5 s6 s7 s8 s9 s10 s11 s12 s13 s14 s19 s37 s51 s67 s78 s95 s110 s129 s135 => 
(qLenS s0 fun v60 =>
qLss X 3 s8 v60 fun v61 =>
qG v61 true (fun k => k s0 H) H fun v63 H =>
qG v61 true (fun k => k s8 H) H fun v64 H =>
qG v61 true (fun k => qIx v63 v64 fun v => k v H) H fun v65 H =>
qG v61 true (fun k => qRes (C 96 [v65] H) k) H fun v66 H =>
qPick v61 v66 (.bool false) fun v67 =>
k [s0, s1, s4, s5, s6, s7, s8, s9, s10, s11, s12, s13, s14, s19, s37, s51, v67, s78, s95, s110, s129, s135] H : R))
noncomputable def l54_17 (C : CallF) (k14 : KT R) : KT R → KT R := fun k15 => (r54_8 C (qCd (sel 16) (fun k17 => k17) (fun _ => k14) (qBl (fun k16 => (r54_9 k16)) k15)))
noncomputable def r54_16 (k : KT R) : KT R := fun fr H => opn 22 fr (fun s0 s1 s4 s5 s6 s7 s8 s9 s10 s11 s12 s13 s14 s19 s37 s51 s67 s78 s95 s110 s129 s135 => 
(qBld z97 [(0, 1, (.int .i64 4)), (1, 1, s11), (2, 1, s1)] fun v107 =>
qSt 3 s4 v107 H fun _ H =>
k [s0, s1, s4, s12, s13, s7, s8, s9, s10, s11, s12, s13, s14, s19, s37, s51, s67, s78, s95, s110, s129, s135] H : R))
noncomputable def r54_15 (C : CallF) (k : KT R) : KT R := fun fr H => opn 22 fr (fun s0 s1 s4 s5 s6 s7 s8 s9 s10 s11 s12 s13 s14 s19 s37 s51 s67 s78 s95 s110 s129 s135 => 
(qRes (C 98 [s0, s1] H) fun v101 H =>
qExt v101 0 fun v102 =>
qExt v101 1 fun v103 =>
qExt v101 2 fun v104 =>
k [s0, s1, s4, s5, s6, s7, s8, s9, s10, v102, v103, v104, s14, s19, s37, s51, s67, s78, s95, s110, s129, s135] H : R))
noncomputable def r54_18 (k : KT R) : KT R := fun fr H => opn 22 fr (fun s0 s1 s4 s5 s6 s7 s8 s9 s10 s11 s12 s13 s14 s19 s37 s51 s67 s78 s95 s110 s129 s135 => 
(qBld z97 [(0, 1, (.int .i64 5)), (1, 1, (.str [46,46,46])), (2, 1, s1)] fun v125 =>
qAdd X 3 s1 (.int .i64 3) fun v127 =>
qSt 3 s4 v125 H fun _ H =>
k [s0, s1, s4, v127, (.bool true), s7, s8, s9, s10, s11, s12, s13, s14, s19, s37, s51, s67, s78, s95, s110, s129, s135] H : R))
noncomputable def r54_17 (k : KT R) : KT R := fun fr H => opn 22 fr (fun s0 s1 s4 s5 s6 s7 s8 s9 s10 s11 s12 s13 s14 s19 s37 s51 s67 s78 s95 s110 s129 s135 => 
(qLenS s0 fun v112 =>
qSub X 3 v112 s1 fun v114 =>
qGeq X 3 v114 (.int .i64 3) fun v115 =>
qG v115 true (fun k => k s0 H) H fun v117 H =>
qG v115 true (fun k => k s1 H) H fun v118 H =>
qG v115 true (fun k => k s1 H) H fun v119 H =>
qG v115 true (fun k => qAdd X 3 v119 (.int .i64 3) fun v => k v H) H fun v120 H =>
qG v115 true (fun k => qSlc Try.t9.desc 0 v117 (some v118) (some v120) none fun v => k v H) H fun v121 H =>
qG v115 true (fun k => qEql X 9 v121 (.str [46,46,46]) fun v => k v H) H fun v122 H =>
qPick v115 v122 (.bool false) fun v123 =>
k [s0, s1, s4, s5, s6, s7, s8, s9, s10, s11, s12, s13, s14, s19, s37, s51, s67, s78, s95, v123, s129, s135] H : R))
noncomputable def r54_14 (k : KT R) : KT R := fun fr H => opn 22 fr (fun s0 s1 s4 s5 s6 s7 s8 s9 s10 s11 s12 s13 s14 s19 s37 s51 s67 s78 s95 s110 s129 s135 => 
(qEql X 5 s7 (.int .u8 34) fun v97 =>
k [s0, s1, s4, s5, s6, s7, s8, s9, s10, s11, s12, s13, s14, s19, s37, s51, s67, s78, v97, s110, s129, s135] H : R))
noncomputable def r54_7 (C : CallF) (k : KT R) : KT R := fun fr H => opn 22 fr (fun s0 s1 s4 s5 s6 s7 s8 s9 s10 s11 s12 s13 s14 s19 s37 s51 s67 s78 s95 s110 s129 s135 => 
(qEql X 5 s7 (.int .u8 45) fun v53 =>
qG v53 false (fun k => k s7 H) H fun v55 H =>
qG v53 false (fun k => qRes (C 95 [v55] H) k) H fun v56 H =>
qPick v53 (.bool true) v56 fun v57 =>
k [s0, s1, s4, s5, s6, s7, s8, s9, s10, s11, s12, s13, s14, s19, s37, v57, s67, s78, s95, s110, s129, s135] H : R))
noncomputable def r54_3 (C : CallF) (k : KT R) : KT R := fun fr H => opn 22 fr (fun s0 s1 s4 s5 s6 s7 s8 s9 s10 s11 s12 s13 s14 s19 s37 s51 s67 s78 s95 s110 s129 s135 => 
(qRes (C 94 [s7] H) fun v21 H =>
k [s0, s1, s4, s5, s6, s7, s8, s9, s10, s11, s12, s13, s14, v21, s37, s51, s67, s78, s95, s110, s129, s135] H : R))
noncomputable def r54_2 (k : KT R) : KT R := fun fr H => opn 22 fr (fun s0 s1 s4 s5 s6 s7 s8 s9 s10 s11 s12 s13 s14 s19 s37 s51 s67 s78 s95 s110 s129 s135 => 
(k [s0, s1, s4, s5, s6, s7, s1, s9, s10, s11, s12, s13, s14, s19, s37, s51, s67, s78, s95, s110, s129, s135] H : R))
noncomputable def r54_1 (k : KT R) : KT R := fun fr H => opn 22 fr (fun s0 s1 s4 s5 s6 s7 s8 s9 s10 s11 s12 s13 s14 s19 s37 s51 s67 s78 s95 s110 s129 s135 => 
(qIx s0 s1 fun v17 =>
k [s0, s1, s4, s5, s6, v17, s8, s9, s10, s11, s12, s13, s14, s19, s37, s51, s67, s78, s95, s110, s129, s135] H : R))
noncomputable def r54_0 (k : KT R) : KT R := fun fr H => opn 22 fr (fun s0 s1 s4 s5 s6 s7 s8 s9 s10 s11 s12 s13 s14 s19 s37 s51 s67 s78 s95 s110 s129 s135 => 
(qNew (.cells z97) .ptr H fun v4 H =>
k [s0, s1, v4, (.int .i64 0), (.bool false), s7, s8, s9, s10, s11, s12, s13, s14, s19, s37, s51, s67, s78, s95, s110, s129, s135] H : R))
noncomputable def c54 (C : CallF) (l0 : List AV) (H : AH) (k : AV → AH → R) : R := opn 2 l0 (fun x0 x1 => (qFn (fun kr => (r54_0 (r54_1 (r54_2 (qBl (fun k6 => (r54_3 C (qCd (sel 13) (fun _ => (qBl (fun k8 => (qLoop (l54_11 C k8))) (r54_6 kr))) (fun k7 => (r54_7 C (qCd (sel 15) (fun _ => (qBl (fun k14 => (qLoop (l54_17 C k14))) (r54_10 C (r54_11 (qCd (sel 17) (fun _ => (r54_12 kr)) (fun k13 => k13) (r54_13 kr)))))) (fun k12 => (r54_14 (qCd (sel 18) (fun _ => (r54_15 C (r54_16 kr))) (fun k18 => (r54_17 (qCd (sel 19) (fun _ => (r54_18 kr)) (fun k19 => k19) k18))) k12))) k7))) k6))) (r54_19 (qBl (fun k1 => (qLoop (l54_5 k1 kr))) (r54_24 kr))))))))
(fun fr H => qPtr (sel 2 fr) (qLdA 3 (sel 2 fr) H fun w0 => k (.tup [w0, (sel 3 fr), (sel 4 fr)]) H)) [x0, x1, undef, undef, undef, undef, undef, undef, undef, undef, undef, undef, undef, undef, undef, undef, undef, undef, undef, undef, undef, undef] H : R))
/- (*refectory/refectoryref05.P).Is -/
noncomputable def r55_1 (k : KT R) : KT R := fun fr H => opn 4 fr (fun s0 s1 s2 s6 => 
(qNc s0 fun v8 =>
qFa 2 v8 fun v9 =>
qLd v9 H fun v10 =>
qEql X 57 v10 (.int .i64 0) fun v11 =>
qG v11 true (fun k => k s0 H) H fun v13 H =>
qG v11 true (fun k => qNc v13 fun v => k v H) H fun v14 H =>
qG v11 true (fun k => qFa 1 v14 fun v => k v H) H fun v15 H =>
qG v11 true (fun k => qLd v15 H fun v => k v H) H fun v16 H =>
qG v11 true (fun k => qGeq X 3 v16 (.int .i64 0) fun v => k v H) H fun v17 H =>
qPick v11 v17 (.bool false) fun v18 =>
qG v18 true (fun k => k s0 H) H fun v20 H =>
qG v18 true (fun k => qNc v20 fun v => k v H) H fun v21 H =>
qG v18 true (fun k => qFa 1 v21 fun v => k v H) H fun v22 H =>
qG v18 true (fun k => qLd v22 H fun v => k v H) H fun v23 H =>
qG v18 true (fun k => k s0 H) H fun v24 H =>
qG v18 true (fun k => qNc v24 fun v => k v H) H fun v25 H =>
qG v18 true (fun k => qFa 0 v25 fun v => k v H) H fun v26 H =>
qG v18 true (fun k => qLd v26 H fun v => k v H) H fun v27 H =>
qG v18 true (fun k => qLenL v27 fun v => k v H) H fun v28 H =>
qG v18 true (fun k => qLss X 3 v23 v28 fun v => k v H) H fun v29 H =>
qPick v18 v29 (.bool false) fun v30 =>
qG v30 true (fun k => k s0 H) H fun v32 H =>
qG v30 true (fun k => qNc v32 fun v => k v H) H fun v33 H =>
qG v30 true (fun k => qFa 0 v33 fun v => k v H) H fun v34 H =>
qG v30 true (fun k => qLd v34 H fun v => k v H) H fun v35 H =>
qG v30 true (fun k => k s0 H) H fun v36 H =>
qG v30 true (fun k => qNc v36 fun v => k v H) H fun v37 H =>
qG v30 true (fun k => qFa 1 v37 fun v => k v H) H fun v38 H =>
qG v30 true (fun k => qLd v38 H fun v => k v H) H fun v39 H =>
qG v30 true (fun k => qIa 3 v35 v39 fun v => k v H) H fun v40 H =>
qG v30 true (fun k => qFa 0 v40 fun v => k v H) H fun v41 H =>
qG v30 true (fun k => qLd v41 H fun v => k v H) H fun v42 H =>
qG v30 true (fun k => k s1 H) H fun v43 H =>
qG v30 true (fun k => qEql X 3 v42 v43 fun v => k v H) H fun v44 H =>
qPick v30 v44 (.bool false) fun v45 =>
qG v45 true (fun k => k s0 H) H fun v47 H =>
qG v45 true (fun k => qNc v47 fun v => k v H) H fun v48 H =>
qG v45 true (fun k => qFa 0 v48 fun v => k v H) H fun v49 H =>
qG v45 true (fun k => qLd v49 H fun v => k v H) H fun v50 H =>
qG v45 true (fun k => k s0 H) H fun v51 H =>
qG v45 true (fun k => qNc v51 fun v => k v H) H fun v52 H =>
qG v45 true (fun k => qFa 1 v52 fun v => k v H) H fun v53 H =>
qG v45 true (fun k => qLd v53 H fun v => k v H) H fun v54 H =>
qG v45 true (fun k => qIa 3 v50 v54 fun v => k v H) H fun v55 H =>
qG v45 true (fun k => qFa 1 v55 fun v => k v H) H fun v56 H =>
qG v45 true (fun k => qLd v56 H fun v => k v H) H fun v57 H =>
qG v45 true (fun k => k s2 H) H fun v58 H =>
qG v45 true (fun k => qEql X 9 v57 v58 fun v => k v H) H fun v59 H =>
qPick v45 v59 (.bool false) fun v60 =>
k [s0, s1, s2, v60] H : R))
noncomputable def r55_0 (k : KT R) : KT R := fun fr H => opn 4 fr (fun s0 s1 s2 s6 => 
(k [s0, s1, s2, (.bool false)] H : R))
noncomputable def c55 (C : CallF) (l0 : List AV) (H : AH) (k : AV → AH → R) : R := opn 3 l0 (fun x0 x1 x2 => (qFn (fun kr => (r55_0 (r55_1 kr)))
(fun fr H => k (sel 3 fr) H) [x0, x1, x2, undef] H : R))
/- refectory/refectoryref06.set -/
noncomputable def r56_8 (k : KT R) : KT R := fun fr H => opn 6 fr (fun s0 s1 s4 s5 s11 s38 => 
(k [s0, s1, s5, s5, s11, s38] H : R))
noncomputable def r56_7 (C : CallF) (k : KT R) : KT R := fun fr H => opn 6 fr (fun s0 s1 s4 s5 s11 s38 => 
(qRes (C 99 [s0, s1] H) fun v42 H =>
qRows z36 1 [(0, v42)] fun v43 =>
qApp 7 128 s5 v43 false H fun v44 H =>
k [s0, s1, s4, v44, s11, s38] H : R))
noncomputable def r56_6 (C : CallF) (k : KT R) : KT R := fun fr H => opn 6 fr (fun s0 s1 s4 s5 s11 s38 => 
(qNc s0 fun v25 =>
qFa 2 v25 fun v26 =>
qLd v26 H fun v27 =>
qEql X 57 v27 (.int .i64 0) fun v28 =>
qG v28 true (fun k => k s5 H) H fun v30 H =>
qG v28 true (fun k => qLenL v30 fun v => k v H) H fun v31 H =>
qG v28 true (fun k => qEql X 3 v31 (.int .i64 0) fun v => k v H) H fun v32 H =>
qG v28 true (fun k => k v32 H) H fun v33 H =>
qG v33 false (fun k => k s0 H) H fun v34 H =>
qG v33 false (fun k => qRes (C 48 [v34, (.int .i64 5), (.str [125])] H) k) H fun v35 H =>
qG v33 false (fun k => qNot v35 fun v => k v H) H fun v36 H =>
qG v28 true (fun k => qPick v33 (.bool true) v36 fun v => k v H) H fun v37 H =>
qPick v28 v37 (.bool false) fun v38 =>
k [s0, s1, s4, s5, s11, v38] H : R))
noncomputable def l56_4 (C : CallF) (k1 : KT R) : KT R → KT R := fun k2 => (r56_6 C (qCd (sel 5) (fun k4 => k4) (fun _ => k1) (qBl (fun k3 => (r56_7 C k3)) k2)))
noncomputable def r56_5 (C : CallF) (k : KT R) : KT R := fun fr H => opn 6 fr (fun s0 s1 s4 s5 s11 s38 => 
(qRes (C 85 [s0, (.str [123])] H) fun v23 H =>
k [s0, s1, s4, s5, s11, s38] H : R))
noncomputable def r56_4 (k : KT R) : KT R := fun fr H => opn 6 fr (fun s0 s1 s4 s5 s11 s38 => 
(k [s0, s1, (.sl [] .nil), s5, s11, s38] H : R))
noncomputable def r56_3 (k : KT R) : KT R := fun fr H => opn 6 fr (fun s0 s1 s4 s5 s11 s38 => 
(qNc s0 fun v15 =>
qFa 1 v15 fun v16 =>
qLd v16 H fun v17 =>
qNc s0 fun v18 =>
qFa 2 v18 fun v19 =>
qSt 1 v19 (.int .i64 4) H fun _ H =>
qNc s0 fun v20 =>
qFa 3 v20 fun v21 =>
qSt 1 v21 v17 H fun _ H =>
k [s0, s1, s4, s5, s11, s38] H : R))
noncomputable def r56_2 (C : CallF) (k : KT R) : KT R := fun fr H => opn 6 fr (fun s0 s1 s4 s5 s11 s38 => 
(qRes (C 55 [s0, (.int .i64 5), (.str [123])] H) fun v7 H =>
qG v7 true (fun k => k s1 H) H fun v9 H =>
qG v7 true (fun k => qGtr X 3 v9 (.int .i64 12) fun v => k v H) H fun v10 H =>
qPick v7 v10 (.bool false) fun v11 =>
k [s0, s1, s4, s5, v11, s38] H : R))
noncomputable def r56_1 (k : KT R) : KT R := fun fr H => opn 6 fr (fun s0 s1 s4 s5 s11 s38 => 
(k [s0, s1, s4, (.sl [] .nil), s11, s38] H : R))
noncomputable def r56_0 (k : KT R) : KT R := fun fr H => opn 6 fr (fun s0 s1 s4 s5 s11 s38 => 
(k [s0, s1, (.sl [] .nil), s5, s11, s38] H : R))
noncomputable def c56 (C : CallF) (l0 : List AV) (H : AH) (k : AV → AH → R) : R := opn 2 l0 (fun x0 x1 => (qFn (fun kr => (r56_0 (r56_1 (r56_2 C (qCd (sel 4) (fun _ => (r56_3 (r56_4 kr))) (fun k5 => k5) (r56_5 C (qBl (fun k1 => (qLoop (l56_4 C k1))) (r56_8 kr))))))))
(fun fr H => k (sel 2 fr) H) [x0, x1, undef, undef, undef, undef] H : R))
/- (*refectory/refectoryref05.P).Name -/
noncomputable def r57_5 (k : KT R) : KT R := fun fr H => opn 3 fr (fun s0 s2 s5 => 
(qNc s0 fun v20 =>
qFa 0 v20 fun v21 =>
qLd v21 H fun v22 =>
qNc s0 fun v24 =>
qFa 1 v24 fun v25 =>
qLd v25 H fun v26 =>
qSub X 3 v26 (.int .i64 1) fun v27 =>
qIa 3 v22 v27 fun v28 =>
qFa 1 v28 fun v29 =>
qLd v29 H fun v30 =>
k [s0, v30, s5] H : R))
noncomputable def r57_4 (k : KT R) : KT R := fun fr H => opn 3 fr (fun s0 s2 s5 => 
(qNc s0 fun v13 =>
qFa 1 v13 fun v14 =>
qLd v14 H fun v15 =>
qAdd X 3 v15 (.int .i64 1) fun v16 =>
qNc s0 fun v17 =>
qFa 1 v17 fun v18 =>
qSt 1 v18 v16 H fun _ H =>
k [s0, s2, s5] H : R))
noncomputable def r57_3 (k : KT R) : KT R := fun fr H => opn 3 fr (fun s0 s2 s5 => 
(k [s0, (.str []), s5] H : R))
noncomputable def r57_2 (C : CallF) (k : KT R) : KT R := fun fr H => opn 3 fr (fun s0 s2 s5 => 
(qNc s0 fun v8 =>
qFa 1 v8 fun v9 =>
qLd v9 H fun v10 =>
qRes (C 100 [s0, (.int .i64 2), v10] H) fun v11 H =>
k [s0, s2, s5] H : R))
noncomputable def r57_1 (C : CallF) (k : KT R) : KT R := fun fr H => opn 3 fr (fun s0 s2 s5 => 
(qRes (C 58 [s0] H) fun v4 H =>
qNeq X 3 v4 (.int .i64 1) fun v5 =>
k [s0, s2, v5] H : R))
noncomputable def r57_0 (k : KT R) : KT R := fun fr H => opn 3 fr (fun s0 s2 s5 => 
(k [s0, (.str []), s5] H : R))
noncomputable def c57 (C : CallF) (l0 : List AV) (H : AH) (k : AV → AH → R) : R := opn 1 l0 (fun x0 => (qFn (fun kr => (r57_0 (r57_1 C (qCd (sel 2) (fun _ => (r57_2 C (r57_3 kr))) (fun k1 => k1) (r57_4 (r57_5 kr))))))
(fun fr H => k (sel 1 fr) H) [x0, undef, undef] H : R))
/- (*refectory/refectoryref05.P).Kind -/
noncomputable def r58_3 (k : KT R) : KT R := fun fr H => opn 3 fr (fun s0 s2 s26 => 
(qNc s0 fun v28 =>
qFa 0 v28 fun v29 =>
qLd v29 H fun v30 =>
qNc s0 fun v32 =>
qFa 1 v32 fun v33 =>
qLd v33 H fun v34 =>
qIa 3 v30 v34 fun v35 =>
qFa 0 v35 fun v36 =>
qLd v36 H fun v37 =>
k [s0, v37, s26] H : R))
noncomputable def r58_2 (k : KT R) : KT R := fun fr H => opn 3 fr (fun s0 s2 s26 => 
(k [s0, (.int .i64 0), s26] H : R))
noncomputable def r58_1 (k : KT R) : KT R := fun fr H => opn 3 fr (fun s0 s2 s26 => 
(qNc s0 fun v4 =>
qFa 2 v4 fun v5 =>
qLd v5 H fun v6 =>
qNeq X 57 v6 (.int .i64 0) fun v7 =>
qG v7 false (fun k => k s0 H) H fun v9 H =>
qG v7 false (fun k => qNc v9 fun v => k v H) H fun v10 H =>
qG v7 false (fun k => qFa 1 v10 fun v => k v H) H fun v11 H =>
qG v7 false (fun k => qLd v11 H fun v => k v H) H fun v12 H =>
qG v7 false (fun k => qLss X 3 v12 (.int .i64 0) fun v => k v H) H fun v13 H =>
qPick v7 (.bool true) v13 fun v14 =>
qG v14 false (fun k => k s0 H) H fun v16 H =>
qG v14 false (fun k => qNc v16 fun v => k v H) H fun v17 H =>
qG v14 false (fun k => qFa 1 v17 fun v => k v H) H fun v18 H =>
qG v14 false (fun k => qLd v18 H fun v => k v H) H fun v19 H =>
qG v14 false (fun k => k s0 H) H fun v20 H =>
qG v14 false (fun k => qNc v20 fun v => k v H) H fun v21 H =>
qG v14 false (fun k => qFa 0 v21 fun v => k v H) H fun v22 H =>
qG v14 false (fun k => qLd v22 H fun v => k v H) H fun v23 H =>
qG v14 false (fun k => qLenL v23 fun v => k v H) H fun v24 H =>
qG v14 false (fun k => qGeq X 3 v19 v24 fun v => k v H) H fun v25 H =>
qPick v14 (.bool true) v25 fun v26 =>
k [s0, s2, v26] H : R))
noncomputable def r58_0 (k : KT R) : KT R := fun fr H => opn 3 fr (fun s0 s2 s26 => 
(k [s0, (.int .i64 0), s26] H : R))
noncomputable def c58 (C : CallF) (l0 : List AV) (H : AH) (k : AV → AH → R) : R := opn 1 l0 (fun x0 => (qFn (fun kr => (r58_0 (r58_1 (qCd (sel 2) (fun _ => (r58_2 kr)) (fun k1 => k1) (r58_3 kr)))))
(fun fr H => k (sel 1 fr) H) [x0, undef, undef] H : R))
/- refectory/refectoryref06.vars -/
noncomputable def r59_14 (k : KT R) : KT R := fun fr H => opn 7 fr (fun s0 s2 s3 s4 s7 s22 s34 => 
(k [s0, s3, s3, s4, s7, s22, s34] H : R))
noncomputable def r59_13 (k : KT R) : KT R := fun fr H => opn 7 fr (fun s0 s2 s3 s4 s7 s22 s34 => 
(qLdA 7 s4 H fun v45 =>
qRows z182 1 [(0, v45)] fun v46 =>
qApp 7 120 s3 v46 false H fun v47 H =>
k [s0, s2, v47, s4, s7, s22, s34] H : R))
noncomputable def r59_12 (k : KT R) : KT R := fun fr H => opn 7 fr (fun s0 s2 s3 s4 s7 s22 s34 => 
(qNc s0 fun v42 =>
qFa 4 v42 fun v43 =>
qSt 1 v43 (.bool true) H fun _ H =>
k [s0, s2, s3, s4, s7, s22, s34] H : R))
noncomputable def r59_11 (C : CallF) (k : KT R) : KT R := fun fr H => opn 7 fr (fun s0 s2 s3 s4 s7 s22 s34 => 
(qRes (C 102 [s0, (.int .i64 1)] H) fun v39 H =>
qFa 3 s4 fun v40 =>
qSt 4 v40 v39 H fun _ H =>
k [s0, s2, s3, s4, s7, s22, s34] H : R))
noncomputable def r59_10 (k : KT R) : KT R := fun fr H => opn 7 fr (fun s0 s2 s3 s4 s7 s22 s34 => 
(qNc s0 fun v36 =>
qFa 4 v36 fun v37 =>
qSt 1 v37 (.bool false) H fun _ H =>
k [s0, s2, s3, s4, s7, s22, s34] H : R))
noncomputable def r59_9 (C : CallF) (k : KT R) : KT R := fun fr H => opn 7 fr (fun s0 s2 s3 s4 s7 s22 s34 => 
(qRes (C 48 [s0, (.int .i64 5), (.str [61])] H) fun v34 H =>
k [s0, s2, s3, s4, s7, s22, v34] H : R))
noncomputable def r59_8 (C : CallF) (k : KT R) : KT R := fun fr H => opn 7 fr (fun s0 s2 s3 s4 s7 s22 s34 => 
(qRes (C 101 [s0] H) fun v31 H =>
qFa 1 s4 fun v32 =>
qSt 2 v32 v31 H fun _ H =>
k [s0, s2, s3, s4, s7, s22, s34] H : R))
noncomputable def r59_7 (C : CallF) (k : KT R) : KT R := fun fr H => opn 7 fr (fun s0 s2 s3 s4 s7 s22 s34 => 
(qRes (C 85 [s0, (.str [58])] H) fun v29 H =>
k [s0, s2, s3, s4, s7, s22, s34] H : R))
noncomputable def r59_6 (C : CallF) (k : KT R) : KT R := fun fr H => opn 7 fr (fun s0 s2 s3 s4 s7 s22 s34 => 
(qRes (C 57 [s0] H) fun v26 H =>
qBld z182 [(0, 1, v26)] fun v27 =>
qNew (.cells z182) .ptr H fun v4 H =>
qSt 7 v4 v27 H fun _ H =>
k [s0, s2, s3, v4, s7, s22, s34] H : R))
noncomputable def r59_5 (C : CallF) (k : KT R) : KT R := fun fr H => opn 7 fr (fun s0 s2 s3 s4 s7 s22 s34 => 
(qRes (C 85 [s0, (.str [36])] H) fun v24 H =>
k [s0, s2, s3, s4, s7, s22, s34] H : R))
noncomputable def r59_4 (C : CallF) (k : KT R) : KT R := fun fr H => opn 7 fr (fun s0 s2 s3 s4 s7 s22 s34 => 
(qNc s0 fun v9 =>
qFa 2 v9 fun v10 =>
qLd v10 H fun v11 =>
qEql X 57 v11 (.int .i64 0) fun v12 =>
qG v12 true (fun k => k s3 H) H fun v14 H =>
qG v12 true (fun k => qLenL v14 fun v => k v H) H fun v15 H =>
qG v12 true (fun k => qEql X 3 v15 (.int .i64 0) fun v => k v H) H fun v16 H =>
qG v12 true (fun k => k v16 H) H fun v17 H =>
qG v17 false (fun k => k s0 H) H fun v18 H =>
qG v17 false (fun k => qRes (C 48 [v18, (.int .i64 5), (.str [41])] H) k) H fun v19 H =>
qG v17 false (fun k => qNot v19 fun v => k v H) H fun v20 H =>
qG v12 true (fun k => qPick v17 (.bool true) v20 fun v => k v H) H fun v21 H =>
qPick v12 v21 (.bool false) fun v22 =>
k [s0, s2, s3, s4, s7, v22, s34] H : R))
noncomputable def l59_5 (C : CallF) (k1 : KT R) : KT R → KT R := fun k2 => (r59_4 C (qCd (sel 5) (fun k5 => k5) (fun _ => k1) (qBl (fun k3 => (r59_5 C (r59_6 C (r59_7 C (r59_8 C (r59_9 C (qCd (sel 6) (fun k4 => (r59_10 (r59_11 C (r59_12 k4)))) (fun k4 => k4) (r59_13 k3)))))))) k2)))
noncomputable def r59_3 (k : KT R) : KT R := fun fr H => opn 7 fr (fun s0 s2 s3 s4 s7 s22 s34 => 
(k [s0, (.sl [] .nil), s3, s4, s7, s22, s34] H : R))
noncomputable def r59_2 (C : CallF) (k : KT R) : KT R := fun fr H => opn 7 fr (fun s0 s2 s3 s4 s7 s22 s34 => 
(qRes (C 48 [s0, (.int .i64 5), (.str [40])] H) fun v6 H =>
qNot v6 fun v7 =>
k [s0, s2, s3, s4, v7, s22, s34] H : R))
noncomputable def r59_1 (k : KT R) : KT R := fun fr H => opn 7 fr (fun s0 s2 s3 s4 s7 s22 s34 => 
(k [s0, s2, (.sl [] .nil), s4, s7, s22, s34] H : R))
noncomputable def r59_0 (k : KT R) : KT R := fun fr H => opn 7 fr (fun s0 s2 s3 s4 s7 s22 s34 => 
(k [s0, (.sl [] .nil), s3, s4, s7, s22, s34] H : R))
noncomputable def c59 (C : CallF) (l0 : List AV) (H : AH) (k : AV → AH → R) : R := opn 1 l0 (fun x0 => (qFn (fun kr => (r59_0 (r59_1 (r59_2 C (qCd (sel 4) (fun _ => (r59_3 kr)) (fun k6 => k6) (qBl (fun k1 => (qLoop (l59_5 C k1))) (r59_14 kr)))))))
(fun fr H => k (sel 1 fr) H) [x0, undef, undef, undef, undef, undef, undef] H : R))
/- refectory/refectoryref06.dirs -/
noncomputable def r60_5 (k : KT R) : KT R := fun fr H => opn 5 fr (fun s0 s2 s3 s4 s6 => 
(k [s0, s3, s3, s4, s6] H : R))
noncomputable def r60_4 (C : CallF) (k : KT R) : KT R := fun fr H => opn 5 fr (fun s0 s2 s3 s4 s6 => 
(qRes (C 103 [s0] H) fun v12 H =>
qBld z40 [(0, 1, s4), (1, 1, v12)] fun v13 =>
qRows z40 1 [(0, v13)] fun v14 =>
qApp 2 40 s3 v14 false H fun v15 H =>
k [s0, s2, v15, s4, s6] H : R))
noncomputable def r60_3 (C : CallF) (k : KT R) : KT R := fun fr H => opn 5 fr (fun s0 s2 s3 s4 s6 => 
(qRes (C 57 [s0] H) fun v8 H =>
k [s0, s2, s3, v8, s6] H : R))
noncomputable def r60_2 (C : CallF) (k : KT R) : KT R := fun fr H => opn 5 fr (fun s0 s2 s3 s4 s6 => 
(qRes (C 48 [s0, (.int .i64 5), (.str [64])] H) fun v6 H =>
k [s0, s2, s3, s4, v6] H : R))
noncomputable def l60_4 (C : CallF) (k1 : KT R) : KT R → KT R := fun k2 => (r60_2 C (qCd (sel 4) (fun k4 => k4) (fun _ => k1) (qBl (fun k3 => (r60_3 C (r60_4 C k3))) k2)))
noncomputable def r60_1 (k : KT R) : KT R := fun fr H => opn 5 fr (fun s0 s2 s3 s4 s6 => 
(k [s0, s2, (.sl [] .nil), s4, s6] H : R))
noncomputable def r60_0 (k : KT R) : KT R := fun fr H => opn 5 fr (fun s0 s2 s3 s4 s6 => 
(k [s0, (.sl [] .nil), s3, s4, s6] H : R))
noncomputable def c60 (C : CallF) (l0 : List AV) (H : AH) (k : AV → AH → R) : R := opn 1 l0 (fun x0 => (qFn (fun kr => (r60_0 (r60_1 (qBl (fun k1 => (qLoop (l60_4 C k1))) (r60_5 kr)))))
(fun fr H => k (sel 1 fr) H) [x0, undef, undef, undef, undef] H : R))
/- (*refectory/refectoryref05.P).Fail -/
noncomputable def r61_0 (C : CallF) (k : KT R) : KT R := fun fr H => opn 1 fr (fun s0 => 
(qNc s0 fun v4 =>
qFa 1 v4 fun v5 =>
qLd v5 H fun v6 =>
qRes (C 100 [s0, (.int .i64 2), v6] H) fun v7 H =>
k [s0] H : R))
noncomputable def c61 (C : CallF) (l0 : List AV) (H : AH) (k : AV → AH → R) : R := opn 1 l0 (fun x0 => (qFn (fun kr => (r61_0 C kr))
(fun fr H => k (.tup []) H) [x0] H : R))
/- refectory/frags.typed$1 -/
noncomputable def r62_1 (C : CallF) (k : KT R) : KT R := fun fr H => opn 4 fr (fun s0 s1 s2 s3 => 
(qFa 3 s2 fun v4 =>
qLd v4 H fun v5 =>
qNeq X 9 v5 (.str []) fun v6 =>
qG v6 true (fun k => qLdA 3 s1 H fun v => k v H) H fun v8 H =>
qG v6 true (fun k => qFa 3 s2 fun v => k v H) H fun v9 H =>
qG v6 true (fun k => qLd v9 H fun v => k v H) H fun v10 H =>
qG v6 true (fun k => qRes (C 63 [v8, v10] H) k) H fun v11 H =>
qG v6 true (fun k => qNot v11 fun v => k v H) H fun v12 H =>
qPick v6 v12 (.bool false) fun v13 =>
k [s0, s1, s2, v13] H : R))
noncomputable def r62_0 (k : KT R) : KT R := fun fr H => opn 4 fr (fun s0 s1 s2 s3 => 
(qBox s0 H fun v2 H =>
k [s0, s1, v2, (.bool false)] H : R))
noncomputable def c62 (C : CallF) (l0 : List AV) (H : AH) (k : AV → AH → R) : R := opn 2 l0 (fun x0 x1 => (qFn (fun kr => (r62_0 (r62_1 C kr)))
(fun fr H => k (sel 3 fr) H) [x0, x1, undef, undef] H : R))
/- refectory/frags.composite -/
noncomputable def r63_2 (k : KT R) : KT R := fun fr H => opn 5 fr (fun s0 s1 s2 s4 s5 => 
(qEql X 3 s5 (.int .i64 2) fun v10 =>
qG v10 false (fun k => k s5 H) H fun v12 H =>
qG v10 false (fun k => qEql X 3 v12 (.int .i64 3) fun v => k v H) H fun v13 H =>
qPick v10 (.bool true) v13 fun v14 =>
qG v14 false (fun k => k s5 H) H fun v16 H =>
qG v14 false (fun k => qEql X 3 v16 (.int .i64 4) fun v => k v H) H fun v17 H =>
qPick v14 (.bool true) v17 fun v18 =>
k [s0, s1, s2, v18, s5] H : R))
noncomputable def r63_1 (C : CallF) (k : KT R) : KT R := fun fr H => opn 5 fr (fun s0 s1 s2 s4 s5 => 
(qLdA 3 s2 H fun v6 =>
qRes (C 104 [v6, s1] H) fun v8 H =>
k [s0, s1, s2, s4, v8] H : R))
noncomputable def r63_0 (k : KT R) : KT R := fun fr H => opn 5 fr (fun s0 s1 s2 s4 s5 => 
(qBox s0 H fun v2 H =>
k [s0, s1, v2, (.bool false), s5] H : R))
noncomputable def c63 (C : CallF) (l0 : List AV) (H : AH) (k : AV → AH → R) : R := opn 2 l0 (fun x0 x1 => (qFn (fun kr => (r63_0 (r63_1 C (r63_2 kr))))
(fun fr H => k (sel 3 fr) H) [x0, x1, undef, undef, undef] H : R))
/- slices.ContainsFunc[[]refectory/api.Op,refectory/api.Op] -/
noncomputable def r64_1 (C : CallF) (k : KT R) : KT R := fun fr H => opn 3 fr (fun s0 s1 s4 => 
(qRes (C 105 [s0, s1] H) fun v7 H =>
qGeq X 3 v7 (.int .i64 0) fun v8 =>
k [s0, s1, v8] H : R))
noncomputable def r64_0 (k : KT R) : KT R := fun fr H => opn 3 fr (fun s0 s1 s4 => 
(k [s0, s1, (.bool false)] H : R))
noncomputable def c64 (C : CallF) (l0 : List AV) (H : AH) (k : AV → AH → R) : R := opn 2 l0 (fun x0 x1 => (qFn (fun kr => (r64_0 (r64_1 C kr)))
(fun fr H => k (sel 2 fr) H) [x0, x1, undef] H : R))
/- refectory/frags.typed$2 -/
noncomputable def r65_1 (C : CallF) (k : KT R) : KT R := fun fr H => opn 4 fr (fun s0 s1 s2 s3 => 
(qFa 4 s2 fun v4 =>
qLd v4 H fun v5 =>
qLd s1 H fun v6 =>
qRes (C 66 [v5, v6] H) fun v7 H =>
k [s0, s1, s2, v7] H : R))
noncomputable def r65_0 (k : KT R) : KT R := fun fr H => opn 4 fr (fun s0 s1 s2 s3 => 
(qBox s0 H fun v2 H =>
k [s0, s1, v2, (.bool false)] H : R))
noncomputable def c65 (C : CallF) (l0 : List AV) (H : AH) (k : AV → AH → R) : R := opn 2 l0 (fun x0 x1 => (qFn (fun kr => (r65_0 (r65_1 C kr)))
(fun fr H => k (sel 3 fr) H) [x0, x1, undef, undef] H : R))
/- refectory/frags.on -/
noncomputable def r66_1 (C : CallF) (k : KT R) : KT R := fun fr H => opn 4 fr (fun s0 s1 s3 s4 => 
(qRes (C 106 [s0, (.fn (.func 107) [] [s3])] H) fun v7 H =>
k [s0, s1, s3, v7] H : R))
noncomputable def r66_0 (k : KT R) : KT R := fun fr H => opn 4 fr (fun s0 s1 s3 s4 => 
(qBox s1 H fun v3 H =>
k [s0, s1, v3, (.bool false)] H : R))
noncomputable def c66 (C : CallF) (l0 : List AV) (H : AH) (k : AV → AH → R) : R := opn 2 l0 (fun x0 x1 => (qFn (fun kr => (r66_0 (r66_1 C kr)))
(fun fr H => k (sel 3 fr) H) [x0, x1, undef, undef] H : R))
/- slices.ContainsFunc[[]refectory/api.Frag,refectory/api.Frag] -/
noncomputable def r67_1 (C : CallF) (k : KT R) : KT R := fun fr H => opn 3 fr (fun s0 s1 s4 => 
(qRes (C 72 [s0, s1] H) fun v7 H =>
qGeq X 3 v7 (.int .i64 0) fun v8 =>
k [s0, s1, v8] H : R))
noncomputable def r67_0 (k : KT R) : KT R := fun fr H => opn 3 fr (fun s0 s1 s4 => 
(k [s0, s1, (.bool false)] H : R))
noncomputable def c67 (C : CallF) (l0 : List AV) (H : AH) (k : AV → AH → R) : R := opn 2 l0 (fun x0 x1 => (qFn (fun kr => (r67_0 (r67_1 C kr)))
(fun fr H => k (sel 2 fr) H) [x0, x1, undef] H : R))
/- refectory/frags.typed$3 -/
noncomputable def r68_1 (C : CallF) (k : KT R) : KT R := fun fr H => opn 5 fr (fun s0 s1 s2 s3 s4 => 
(qLdA 3 s1 H fun v5 =>
qFa 1 s3 fun v6 =>
qLd v6 H fun v7 =>
qRes (C 63 [v5, v7] H) fun v8 H =>
qNot v8 fun v9 =>
qG v9 false (fun k => qFa 3 s3 fun v => k v H) H fun v11 H =>
qG v9 false (fun k => qLd v11 H fun v => k v H) H fun v12 H =>
qG v9 false (fun k => qLd s2 H fun v => k v H) H fun v13 H =>
qG v9 false (fun k => qRes (C 66 [v12, v13] H) k) H fun v14 H =>
qPick v9 (.bool true) v14 fun v15 =>
k [s0, s1, s2, s3, v15] H : R))
noncomputable def r68_0 (k : KT R) : KT R := fun fr H => opn 5 fr (fun s0 s1 s2 s3 s4 => 
(qBox s0 H fun v3 H =>
k [s0, s1, s2, v3, (.bool false)] H : R))
noncomputable def c68 (C : CallF) (l0 : List AV) (H : AH) (k : AV → AH → R) : R := opn 3 l0 (fun x0 x1 x2 => (qFn (fun kr => (r68_0 (r68_1 C kr)))
(fun fr H => k (sel 4 fr) H) [x0, x1, x2, undef, undef] H : R))
/- refectory/frags.strange -/
noncomputable def r69_2 (C : CallF) (k : KT R) : KT R := fun fr H => opn 9 fr (fun s0 s1 s2 s3 s4 s5 s7 s8 s9 => 
(qRes (C 106 [s2, (.fn (.func 110) [] [s4, s7, s5, s9])] H) fun v13 H =>
k [s0, s1, s2, s3, s4, s5, s7, v13, s9] H : R))
noncomputable def r69_1 (k : KT R) : KT R := fun fr H => opn 9 fr (fun s0 s1 s2 s3 s4 s5 s7 s8 s9 => 
(qNew (.cells z135) .ptr H fun v9 H =>
qSt 1 v9 (.fn (.func 108) [] [s7, s4]) H fun _ H =>
k [s0, s1, s2, s3, s4, s5, s7, s8, v9] H : R))
noncomputable def r69_0 (k : KT R) : KT R := fun fr H => opn 9 fr (fun s0 s1 s2 s3 s4 s5 s7 s8 s9 => 
(qBox s0 H fun v4 H =>
qBox s1 H fun v5 H =>
qBox s3 H fun v7 H =>
k [s0, s1, s2, s3, v4, v5, v7, (.bool false), s9] H : R))
noncomputable def c69 (C : CallF) (l0 : List AV) (H : AH) (k : AV → AH → R) : R := opn 4 l0 (fun x0 x1 x2 x3 => (qFn (fun kr => (r69_0 (r69_1 (r69_2 C kr))))
(fun fr H => k (sel 7 fr) H) [x0, x1, x2, x3, undef, undef, undef, undef, undef] H : R))
/- refectory/frags.wrong$1 -/
noncomputable def r70_1 (C : CallF) (k : KT R) : KT R := fun fr H => opn 6 fr (fun s0 s1 s2 s3 s4 s5 => 
(qLd s1 H fun v6 =>
qFa 0 s4 fun v7 =>
qLd v7 H fun v8 =>
qO (lookup X 84 v6 v8 false H) fun v9 =>
qNot v9 fun v10 =>
qG v10 false (fun k => qLdA 2 s2 H fun v => k v H) H fun v12 H =>
qG v10 false (fun k => qFa 3 s4 fun v => k v H) H fun v13 H =>
qG v10 false (fun k => qLd v13 H fun v => k v H) H fun v14 H =>
qG v10 false (fun k => qFa 0 s4 fun v => k v H) H fun v16 H =>
qG v10 false (fun k => qLd v16 H fun v => k v H) H fun v17 H =>
qG v10 false (fun k => qRes (C 22 [v12, v14] H) fun v H => qLd v16 H fun w => qSame v17 w (k v H)) H fun v15 H =>
qG v10 false (fun k => qRes (C 71 [v15, v17] H) k) H fun v18 H =>
qPick v10 (.bool true) v18 fun v19 =>
qG v19 false (fun k => qLdA 3 s3 H fun v => k v H) H fun v21 H =>
qG v19 false (fun k => qLdA 2 s2 H fun v => k v H) H fun v22 H =>
qG v19 false (fun k => qFa 3 s4 fun v => k v H) H fun v23 H =>
qG v19 false (fun k => qLd v23 H fun v => k v H) H fun v24 H =>
qG v19 false (fun k => qFa 1 s4 fun v => k v H) H fun v25 H =>
qG v19 false (fun k => qLd v25 H fun v => k v H) H fun v26 H =>
qG v19 false (fun k => qRes (C 69 [v21, v22, v24, v26] H) k) H fun v27 H =>
qPick v19 (.bool true) v27 fun v28 =>
k [s0, s1, s2, s3, s4, v28] H : R))
noncomputable def r70_0 (k : KT R) : KT R := fun fr H => opn 6 fr (fun s0 s1 s2 s3 s4 s5 => 
(qBox s0 H fun v4 H =>
k [s0, s1, s2, s3, v4, (.bool false)] H : R))
noncomputable def c70 (C : CallF) (l0 : List AV) (H : AH) (k : AV → AH → R) : R := opn 4 l0 (fun x0 x1 x2 x3 => (qFn (fun kr => (r70_0 (r70_1 C kr)))
(fun fr H => k (sel 5 fr) H) [x0, x1, x2, x3, undef, undef] H : R))
end
theorem e2 {R : Type} [Mon R] : hFn (R := R) X 2 Try.f2 0 [] = c2 := by kernel_rfl
theorem xf2 : X.fn 2 = some Try.f2 := by kernel_rfl
theorem e3 {R : Type} [Mon R] : hFn (R := R) X 3 Try.f3 2 [0, 1, 4, 5, 6, 7, 8, 9, 10, 11, 12, 26, 39, 86] = c3 := by kernel_rfl
theorem xf3 : X.fn 3 = some Try.f3 := by kernel_rfl
theorem e4 {R : Type} [Mon R] : hFn (R := R) X 4 Try.f4 1 [0, 2, 3, 4, 5, 6, 7, 8, 9, 10, 11, 12, 13, 23, 43, 44, 49, 54, 64, 68, 86, 90, 126] = c4 := by kernel_rfl
theorem xf4 : X.fn 4 = some Try.f4 := by kernel_rfl
theorem e5 {R : Type} [Mon R] : hFn (R := R) X 5 Try.f5 1 [0, 2, 3, 4, 5, 6, 8] = c5 := by kernel_rfl
theorem xf5 : X.fn 5 = some Try.f5 := by kernel_rfl
theorem e6 {R : Type} [Mon R] : hFn (R := R) X 6 Try.f6 3 [0, 1, 2, 6, 7, 8, 9, 10, 11, 12, 13, 25, 37, 50, 80, 83, 93] = c6 := by kernel_rfl
theorem xf6 : X.fn 6 = some Try.f6 := by kernel_rfl
theorem e7 {R : Type} [Mon R] : hFn (R := R) X 7 Try.f7 2 [0, 1, 4, 5, 6, 7, 8, 9, 10, 11, 12, 13] = c7 := by kernel_rfl
theorem xf7 : X.fn 7 = some Try.f7 := by kernel_rfl
theorem e8 {R : Type} [Mon R] : hFn (R := R) X 8 Try.f8 3 [0, 1, 2, 6, 7, 8, 9, 10, 11, 12, 15] = c8 := by kernel_rfl
theorem xf8 : X.fn 8 = some Try.f8 := by kernel_rfl
theorem e9 {R : Type} [Mon R] : hFn (R := R) X 9 Try.f9 1 [0, 2, 3, 4, 5, 6, 8] = c9 := by kernel_rfl
theorem xf9 : X.fn 9 = some Try.f9 := by kernel_rfl
theorem e10 {R : Type} [Mon R] : hFn (R := R) X 10 Try.f10 3 [0, 1, 2, 6, 7, 8, 9, 10, 11, 12, 13, 14, 16, 17, 19, 26, 39] = c10 := by kernel_rfl
theorem xf10 : X.fn 10 = some Try.f10 := by kernel_rfl
theorem e11 {R : Type} [Mon R] : hFn (R := R) X 11 Try.f11 2 [0, 1, 4, 5, 6, 7, 8, 9, 10, 11, 12, 13, 33, 48, 76] = c11 := by kernel_rfl
theorem xf11 : X.fn 11 = some Try.f11 := by kernel_rfl
theorem e12 {R : Type} [Mon R] : hFn (R := R) X 12 Try.f12 3 [0, 1, 2, 6, 7, 8, 9, 10, 11, 12, 13, 14, 15, 17, 18, 28, 39, 50, 73, 75] = c12 := by kernel_rfl
theorem xf12 : X.fn 12 = some Try.f12 := by kernel_rfl
theorem e13 {R : Type} [Mon R] : hFn (R := R) X 13 Try.f13 1 [0, 2, 3, 4, 9] = c13 := by kernel_rfl
theorem xf13 : X.fn 13 = some Try.f13 := by kernel_rfl
theorem e14 {R : Type} [Mon R] : hFn (R := R) X 14 Try.f14 2 [0, 1, 4, 5, 10] = c14 := by kernel_rfl
theorem xf14 : X.fn 14 = some Try.f14 := by kernel_rfl
theorem e15 {R : Type} [Mon R] : hFn (R := R) X 15 Try.f15 5 [0, 1, 2, 3, 4, 5, 6, 9, 10, 11] = c15 := by kernel_rfl
theorem xf15 : X.fn 15 = some Try.f15 := by kernel_rfl
theorem e16 {R : Type} [Mon R] : hFn (R := R) X 16 Try.f16 0 [0, 1, 2, 5, 15] = c16 := by kernel_rfl
theorem xf16 : X.fn 16 = some Try.f16 := by kernel_rfl
theorem e17 {R : Type} [Mon R] : hFn (R := R) X 17 Try.f17 1 [0, 2] = c17 := by kernel_rfl
theorem xf17 : X.fn 17 = some Try.f17 := by kernel_rfl
theorem e18 {R : Type} [Mon R] : hFn (R := R) X 18 Try.f18 1 [0, 1, 2, 3, 5, 7, 8, 9, 10] = c18 := by kernel_rfl
theorem xf18 : X.fn 18 = some Try.f18 := by kernel_rfl
theorem e19 {R : Type} [Mon R] : hFn (R := R) X 19 Try.f19 1 [0, 2, 3, 4, 5, 6, 7, 8, 9, 10, 13, 22, 28, 50, 57, 66] = c19 := by kernel_rfl
theorem xf19 : X.fn 19 = some Try.f19 := by kernel_rfl
theorem e20 {R : Type} [Mon R] : hFn (R := R) X 20 Try.f20 2 [0, 1, 2, 3, 4, 5, 8, 12] = c20 := by kernel_rfl
theorem xf20 : X.fn 20 = some Try.f20 := by kernel_rfl
theorem e21 {R : Type} [Mon R] : hFn (R := R) X 21 Try.f21 0 [0, 1, 2, 5, 8, 9] = c21 := by kernel_rfl
theorem xf21 : X.fn 21 = some Try.f21 := by kernel_rfl
theorem e22 {R : Type} [Mon R] : hFn (R := R) X 22 Try.f22 2 [0, 1, 2, 4, 5, 6, 7] = c22 := by kernel_rfl
theorem xf22 : X.fn 22 = some Try.f22 := by kernel_rfl
theorem e23 {R : Type} [Mon R] : hFn (R := R) X 23 Try.f23 0 [0, 1, 2, 5] = c23 := by kernel_rfl
theorem xf23 : X.fn 23 = some Try.f23 := by kernel_rfl
theorem e24 {R : Type} [Mon R] : hFn (R := R) X 24 Try.f24 2 [0, 1, 2, 4, 5, 6, 7, 8, 9, 10, 11, 13, 14, 41, 73, 100] = c24 := by kernel_rfl
theorem xf24 : X.fn 24 = some Try.f24 := by kernel_rfl
theorem e25 {R : Type} [Mon R] : hFn (R := R) X 25 Try.f25 2 [0, 1, 2, 3, 4, 5, 7, 8, 10, 17, 18, 19, 20, 26, 34, 37, 38, 39, 40, 49] = c25 := by kernel_rfl
theorem xf25 : X.fn 25 = some Try.f25 := by kernel_rfl
theorem e26 {R : Type} [Mon R] : hFn (R := R) X 26 Try.f26 3 [0, 1, 2, 3, 4, 5, 6, 7, 8, 17] = c26 := by kernel_rfl
theorem xf26 : X.fn 26 = some Try.f26 := by kernel_rfl
theorem e27 {R : Type} [Mon R] : hFn (R := R) X 27 Try.f27 2 [0, 1, 2, 3, 4, 5] = c27 := by kernel_rfl
theorem xf27 : X.fn 27 = some Try.f27 := by kernel_rfl
theorem e28 {R : Type} [Mon R] : hFn (R := R) X 28 Try.f28 0 [0, 1, 2, 5] = c28 := by kernel_rfl
theorem xf28 : X.fn 28 = some Try.f28 := by kernel_rfl
theorem e29 {R : Type} [Mon R] : hFn (R := R) X 29 Try.f29 1 [0, 2, 3, 4, 5, 6, 7, 8, 9, 10, 11, 19, 40, 48, 62, 71, 87, 93, 102] = c29 := by kernel_rfl
theorem xf29 : X.fn 29 = some Try.f29 := by kernel_rfl
theorem e30 {R : Type} [Mon R] : hFn (R := R) X 30 Try.f30 2 [0, 1, 5, 6, 7, 8, 9, 10, 11, 14, 18, 25, 37, 42, 78] = c30 := by kernel_rfl
theorem xf30 : X.fn 30 = some Try.f30 := by kernel_rfl
theorem e31 {R : Type} [Mon R] : hFn (R := R) X 31 Try.f31 1 [0, 2, 3, 4, 18, 28] = c31 := by kernel_rfl
theorem xf31 : X.fn 31 = some Try.f31 := by kernel_rfl
theorem e32 {R : Type} [Mon R] : hFn (R := R) X 32 Try.f32 1 [0, 2, 3, 4, 5, 6, 7, 8, 9, 12, 16, 19, 28, 35, 43, 60] = c32 := by kernel_rfl
theorem xf32 : X.fn 32 = some Try.f32 := by kernel_rfl
theorem e33 {R : Type} [Mon R] : hFn (R := R) X 33 Try.f33 2 [0, 1, 4, 5, 8, 23, 36, 59, 63, 71] = c33 := by kernel_rfl
theorem xf33 : X.fn 33 = some Try.f33 := by kernel_rfl
theorem e34 {R : Type} [Mon R] : hFn (R := R) X 34 Try.f34 1 [0, 1, 2, 3, 5, 8, 9, 10, 11, 17] = c34 := by kernel_rfl
theorem xf34 : X.fn 34 = some Try.f34 := by kernel_rfl
theorem e35 {R : Type} [Mon R] : hFn (R := R) X 35 Try.f35 2 [0, 1, 2, 3, 4, 5] = c35 := by kernel_rfl
theorem xf35 : X.fn 35 = some Try.f35 := by kernel_rfl
theorem e36 {R : Type} [Mon R] : hFn (R := R) X 36 Try.f36 2 [0, 1, 2, 3, 4, 5, 7, 8, 10, 13, 14, 15, 16, 22, 30, 34, 35, 36, 37] = c36 := by kernel_rfl
theorem xf36 : X.fn 36 = some Try.f36 := by kernel_rfl
theorem e37 {R : Type} [Mon R] : hFn (R := R) X 37 Try.f37 2 [0, 1, 2, 3, 4, 5, 6, 12] = c37 := by kernel_rfl
theorem xf37 : X.fn 37 = some Try.f37 := by kernel_rfl
theorem e38 {R : Type} [Mon R] : hFn (R := R) X 38 Try.f38 5 [0, 1, 2, 3, 4, 7, 8, 10, 11, 12, 13, 18, 26] = c38 := by kernel_rfl
theorem xf38 : X.fn 38 = some Try.f38 := by kernel_rfl
theorem e39 {R : Type} [Mon R] : hFn (R := R) X 39 Try.f39 2 [0, 1, 4, 22] = c39 := by kernel_rfl
theorem xf39 : X.fn 39 = some Try.f39 := by kernel_rfl
theorem e40 {R : Type} [Mon R] : hFn (R := R) X 40 Try.f40 3 [0, 1, 2, 6, 7, 9, 10, 11, 12, 13, 14, 28, 43, 64, 97, 111, 129, 147] = c40 := by kernel_rfl
theorem xf40 : X.fn 40 = some Try.f40 := by kernel_rfl
theorem e41 {R : Type} [Mon R] : hFn (R := R) X 41 Try.f41 2 [0, 1, 2, 3, 4, 6] = c41 := by kernel_rfl
theorem xf41 : X.fn 41 = some Try.f41 := by kernel_rfl
theorem e42 {R : Type} [Mon R] : hFn (R := R) X 42 Try.f42 2 [0, 1, 2, 4, 5, 6, 11, 21, 28] = c42 := by kernel_rfl
theorem xf42 : X.fn 42 = some Try.f42 := by kernel_rfl
theorem e43 {R : Type} [Mon R] : hFn (R := R) X 43 Try.f43 2 [0, 1, 2, 4, 5] = c43 := by kernel_rfl
theorem xf43 : X.fn 43 = some Try.f43 := by kernel_rfl
theorem e44 {R : Type} [Mon R] : hFn (R := R) X 44 Try.f44 3 [0, 1, 2, 6, 7, 8, 9, 17, 19, 20, 21, 28, 40, 54] = c44 := by kernel_rfl
theorem xf44 : X.fn 44 = some Try.f44 := by kernel_rfl
theorem e45 {R : Type} [Mon R] : hFn (R := R) X 45 Try.f45 3 [0, 1, 2, 6, 7, 9, 10, 11, 12, 13, 14, 21, 29, 44] = c45 := by kernel_rfl
theorem xf45 : X.fn 45 = some Try.f45 := by kernel_rfl
theorem e46 {R : Type} [Mon R] : hFn (R := R) X 46 Try.f46 2 [0, 1, 4, 5, 7, 8, 9, 10, 12, 13, 14, 15, 19, 26, 31, 39, 52] = c46 := by kernel_rfl
theorem xf46 : X.fn 46 = some Try.f46 := by kernel_rfl
theorem e47 {R : Type} [Mon R] : hFn (R := R) X 47 Try.f47 1 [0, 4] = c47 := by kernel_rfl
theorem xf47 : X.fn 47 = some Try.f47 := by kernel_rfl
theorem e48 {R : Type} [Mon R] : hFn (R := R) X 48 Try.f48 3 [0, 1, 2, 6, 7, 12] = c48 := by kernel_rfl
theorem xf48 : X.fn 48 = some Try.f48 := by kernel_rfl
theorem e49 {R : Type} [Mon R] : hFn (R := R) X 49 Try.f49 2 [0, 1, 8, 19] = c49 := by kernel_rfl
theorem xf49 : X.fn 49 = some Try.f49 := by kernel_rfl
theorem e50 {R : Type} [Mon R] : hFn (R := R) X 50 Try.f50 1 [0, 2, 3, 7, 14, 22, 29, 39, 51, 61] = c50 := by kernel_rfl
theorem xf50 : X.fn 50 = some Try.f50 := by kernel_rfl
theorem e51 {R : Type} [Mon R] : hFn (R := R) X 51 Try.f51 2 [0, 1, 2, 3, 4] = c51 := by kernel_rfl
theorem xf51 : X.fn 51 = some Try.f51 := by kernel_rfl
theorem e53 {R : Type} [Mon R] : hFn (R := R) X 53 Try.f53 2 [0, 1, 4] = c53 := by kernel_rfl
theorem xf53 : X.fn 53 = some Try.f53 := by kernel_rfl
theorem e54 {R : Type} [Mon R] : hFn (R := R) X 54 Try.f54 2 [0, 1, 4, 5, 6, 7, 8, 9, 10, 11, 12, 13, 14, 19, 37, 51, 67, 78, 95, 110, 129, 135] = c54 := by kernel_rfl
theorem xf54 : X.fn 54 = some Try.f54 := by kernel_rfl
theorem e55 {R : Type} [Mon R] : hFn (R := R) X 55 Try.f55 3 [0, 1, 2, 6] = c55 := by kernel_rfl
theorem xf55 : X.fn 55 = some Try.f55 := by kernel_rfl
theorem e56 {R : Type} [Mon R] : hFn (R := R) X 56 Try.f56 2 [0, 1, 4, 5, 11, 38] = c56 := by kernel_rfl
theorem xf56 : X.fn 56 = some Try.f56 := by kernel_rfl
theorem e57 {R : Type} [Mon R] : hFn (R := R) X 57 Try.f57 1 [0, 2, 5] = c57 := by kernel_rfl
theorem xf57 : X.fn 57 = some Try.f57 := by kernel_rfl
theorem e58 {R : Type} [Mon R] : hFn (R := R) X 58 Try.f58 1 [0, 2, 26] = c58 := by kernel_rfl
theorem xf58 : X.fn 58 = some Try.f58 := by kernel_rfl
theorem e59 {R : Type} [Mon R] : hFn (R := R) X 59 Try.f59 1 [0, 2, 3, 4, 7, 22, 34] = c59 := by kernel_rfl
theorem xf59 : X.fn 59 = some Try.f59 := by kernel_rfl
theorem e60 {R : Type} [Mon R] : hFn (R := R) X 60 Try.f60 1 [0, 2, 3, 4, 6] = c60 := by kernel_rfl
theorem xf60 : X.fn 60 = some Try.f60 := by kernel_rfl
theorem e61 {R : Type} [Mon R] : hFn (R := R) X 61 Try.f61 1 [0] = c61 := by kernel_rfl
theorem xf61 : X.fn 61 = some Try.f61 := by kernel_rfl
theorem e62 {R : Type} [Mon R] : hFn (R := R) X 62 Try.f62 2 [0, 1, 2, 3] = c62 := by kernel_rfl
theorem xf62 : X.fn 62 = some Try.f62 := by kernel_rfl
theorem e63 {R : Type} [Mon R] : hFn (R := R) X 63 Try.f63 2 [0, 1, 2, 4, 5] = c63 := by kernel_rfl
theorem xf63 : X.fn 63 = some Try.f63 := by kernel_rfl
theorem e64 {R : Type} [Mon R] : hFn (R := R) X 64 Try.f64 2 [0, 1, 4] = c64 := by kernel_rfl
theorem xf64 : X.fn 64 = some Try.f64 := by kernel_rfl
theorem e65 {R : Type} [Mon R] : hFn (R := R) X 65 Try.f65 2 [0, 1, 2, 3] = c65 := by kernel_rfl
theorem xf65 : X.fn 65 = some Try.f65 := by kernel_rfl
theorem e66 {R : Type} [Mon R] : hFn (R := R) X 66 Try.f66 2 [0, 1, 3, 4] = c66 := by kernel_rfl
theorem xf66 : X.fn 66 = some Try.f66 := by kernel_rfl
theorem e67 {R : Type} [Mon R] : hFn (R := R) X 67 Try.f67 2 [0, 1, 4] = c67 := by kernel_rfl
theorem xf67 : X.fn 67 = some Try.f67 := by kernel_rfl
theorem e68 {R : Type} [Mon R] : hFn (R := R) X 68 Try.f68 3 [0, 1, 2, 3, 4] = c68 := by kernel_rfl
theorem xf68 : X.fn 68 = some Try.f68 := by kernel_rfl
theorem e69 {R : Type} [Mon R] : hFn (R := R) X 69 Try.f69 4 [0, 1, 2, 3, 4, 5, 7, 8, 9] = c69 := by kernel_rfl
theorem xf69 : X.fn 69 = some Try.f69 := by kernel_rfl
theorem e70 {R : Type} [Mon R] : hFn (R := R) X 70 Try.f70 4 [0, 1, 2, 3, 4, 5] = c70 := by kernel_rfl
theorem xf70 : X.fn 70 = some Try.f70 := by kernel_rfl
end T
