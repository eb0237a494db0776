import Derived.Test.YtpndehigidcchaaDoorTabRd
import Derived.Test.YtpndehigidcchaaDoorS8
set_option linter.all false
set_option maxRecDepth 100000
set_option linter.unusedVariables false
open Go Go.Aes Go.Proofs
namespace T
noncomputable def z5 : List AV := [.int .u8 0]
noncomputable def z9 : List AV := [.str []]
noncomputable def z24 : List AV := [.str [], .str [], .str [], .str [], .str [], .str [], .str [], .str []]
noncomputable def z30 : List AV := [.int .i64 0, .str [], .int .i64 0]
noncomputable def z33 : List AV := [.str [], .str [], .str [], .str [], .str [], .str [], .str [], .str [], .str [], .str []]
noncomputable def z36 : List AV := [.str [], .str [], .str []]
noncomputable def z54 : List AV := [.nilp, .sl [] .nil]
noncomputable def z75 : List AV := [.bool false, .bool false, .bool false, .bool false, .bool false, .bool false, .bool false, .bool false, .bool false, .bool false, .bool false, .bool false, .bool false, .bool false, .bool false, .bool false, .bool false, .bool false, .bool false, .bool false, .bool false, .bool false, .bool false, .bool false, .bool false, .bool false, .bool false, .bool false, .bool false, .bool false, .bool false, .bool false, .bool false, .bool false, .bool false, .bool false, .bool false, .bool false, .bool false, .bool false, .bool false, .bool false, .bool false, .bool false, .bool false, .bool false, .bool false, .bool false, .bool false, .bool false, .bool false, .bool false, .bool false, .bool false, .bool false, .bool false, .bool false, .bool false, .bool false, .bool false, .bool false, .bool false, .bool false, .bool false, .bool false, .bool false, .bool false, .bool false, .bool false, .bool false, .bool false, .bool false, .bool false, .bool false, .bool false, .bool false, .bool false, .bool false, .bool false, .bool false, .bool false, .bool false, .bool false, .bool false, .bool false, .bool false, .bool false, .bool false, .bool false, .bool false, .bool false, .bool false, .bool false, .bool false, .bool false, .bool false, .bool false, .bool false, .bool false, .bool false, .bool false, .bool false, .bool false, .bool false, .bool false, .bool false, .bool false, .bool false, .bool false, .bool false, .bool false, .bool false, .bool false, .bool false, .bool false, .bool false, .bool false, .bool false, .bool false, .bool false, .bool false, .bool false, .bool false, .bool false, .bool false, .bool false, .bool false, .bool false, .bool false, .bool false, .bool false, .bool false, .bool false, .bool false, .bool false, .bool false, .bool false, .bool false, .bool false, .bool false, .bool false, .bool false, .bool false, .bool false, .bool false, .bool false, .bool false, .bool false, .bool false, .bool false, .bool false, .bool false, .bool false, .bool false, .bool false, .bool false, .bool false, .bool false, .bool false, .bool false, .bool false, .bool false, .bool false, .bool false, .bool false, .bool false, .bool false, .bool false, .bool false, .bool false, .bool false, .bool false, .bool false, .bool false, .bool false, .bool false, .bool false, .bool false, .bool false, .bool false, .bool false, .bool false, .bool false, .bool false, .bool false, .bool false, .bool false, .bool false, .bool false, .bool false, .bool false, .bool false, .bool false, .bool false, .bool false, .bool false, .bool false, .bool false, .bool false, .bool false, .bool false, .bool false, .bool false, .bool false, .bool false, .bool false, .bool false, .bool false, .bool false, .bool false, .bool false, .bool false, .bool false, .bool false, .bool false, .bool false, .bool false, .bool false, .bool false, .bool false, .bool false, .bool false, .bool false, .bool false, .bool false, .bool false, .bool false, .bool false, .bool false, .bool false, .bool false, .bool false, .bool false, .bool false, .bool false, .bool false, .bool false, .bool false, .bool false, .bool false, .bool false, .bool false, .bool false, .bool false, .bool false, .bool false, .bool false, .bool false, .bool false, .bool false, .bool false, .bool false, .bool false, .bool false, .bool false, .bool false]
section
variable {R : Type} [Mon R]
/- gosem.cut.init -/
noncomputable def r2_0 (C : CallF) (k : KT R) : KT R := fun fr H => opn 0 fr (
(qRes (C 1 [] H) fun v0 H =>
k [] H : R))
noncomputable def c2 (C : CallF) (l0 : List AV) (H : AH) (k : AV → AH → R) : R := opn 0 l0 ((qFn (fun kr => (r2_0 C kr))
(fun fr H => k (.tup []) H) [] H : R))
/- refectory/refectorylaw04.LexTexts -/
noncomputable def r3_12 (C : CallF) (k : KT R) : KT R := fun fr H => opn 13 fr (fun s0 s2 s3 s4 s5 s6 s7 s8 s9 s11 s12 s14 s22 => 
(qEql X 26 s11 (.int .i64 0) fun v67 =>
qG v67 true (fun k => k s14 H) H fun v69 H =>
qG v67 true (fun k => qEql X 26 v69 (.int .i64 0) fun v => k v H) H fun v70 H =>
qPick v67 v70 (.bool false) fun v71 =>
qG v71 true (fun k => k s9 H) H fun v73 H =>
qG v71 true (fun k => qLenL v73 fun v => k v H) H fun v74 H =>
qG v71 true (fun k => qEql X 3 v74 (.int .i64 2) fun v => k v H) H fun v75 H =>
qPick v71 v75 (.bool false) fun v76 =>
qG v76 true (fun k => k s9 H) H fun v78 H =>
qG v76 true (fun k => qIa 3 v78 (.int .i64 0) fun v => k v H) H fun v79 H =>
qG v76 true (fun k => qFa 0 v79 fun v => k v H) H fun v80 H =>
qG v76 true (fun k => qLd v80 H fun v => k v H) H fun v81 H =>
qG v76 true (fun k => qEql X 3 v81 (.int .i64 4) fun v => k v H) H fun v82 H =>
qPick v76 v82 (.bool false) fun v83 =>
qG v83 true (fun k => k s9 H) H fun v85 H =>
qG v83 true (fun k => qIa 3 v85 (.int .i64 0) fun v => k v H) H fun v86 H =>
qG v83 true (fun k => qFa 1 v86 fun v => k v H) H fun v87 H =>
qG v83 true (fun k => qLd v87 H fun v => k v H) H fun v88 H =>
qG v83 true (fun k => k s4 H) H fun v89 H =>
qG v83 true (fun k => qEql X 9 v88 v89 fun v => k v H) H fun v90 H =>
qPick v83 v90 (.bool false) fun v91 =>
qG v91 true (fun k => k s9 H) H fun v93 H =>
qG v91 true (fun k => qIa 3 v93 (.int .i64 1) fun v => k v H) H fun v94 H =>
qG v91 true (fun k => qFa 1 v94 fun v => k v H) H fun v95 H =>
qG v91 true (fun k => qLd v95 H fun v => k v H) H fun v96 H =>
qG v91 true (fun k => qEql X 9 v96 (.str [53]) fun v => k v H) H fun v97 H =>
qPick v91 v97 (.bool false) fun v98 =>
qG v98 true (fun k => k s12 H) H fun v100 H =>
qG v98 true (fun k => qLenL v100 fun v => k v H) H fun v101 H =>
qG v98 true (fun k => qEql X 3 v101 (.int .i64 2) fun v => k v H) H fun v102 H =>
qPick v98 v102 (.bool false) fun v103 =>
qG v103 true (fun k => k s12 H) H fun v105 H =>
qG v103 true (fun k => qIa 3 v105 (.int .i64 0) fun v => k v H) H fun v106 H =>
qG v103 true (fun k => qFa 0 v106 fun v => k v H) H fun v107 H =>
qG v103 true (fun k => qLd v107 H fun v => k v H) H fun v108 H =>
qG v103 true (fun k => qEql X 3 v108 (.int .i64 4) fun v => k v H) H fun v109 H =>
qPick v103 v109 (.bool false) fun v110 =>
qG v110 true (fun k => k s12 H) H fun v112 H =>
qG v110 true (fun k => qIa 3 v112 (.int .i64 0) fun v => k v H) H fun v113 H =>
qG v110 true (fun k => qFa 1 v113 fun v => k v H) H fun v114 H =>
qG v110 true (fun k => qLd v114 H fun v => k v H) H fun v115 H =>
qG v110 true (fun k => k s6 H) H fun v116 H =>
qG v110 true (fun k => qEql X 9 v115 v116 fun v => k v H) H fun v117 H =>
qPick v110 v117 (.bool false) fun v118 =>
qG v118 true (fun k => k s12 H) H fun v120 H =>
qG v118 true (fun k => qIa 3 v120 (.int .i64 1) fun v => k v H) H fun v121 H =>
qG v118 true (fun k => qFa 1 v121 fun v => k v H) H fun v122 H =>
qG v118 true (fun k => qLd v122 H fun v => k v H) H fun v123 H =>
qG v118 true (fun k => qEql X 9 v123 (.str [123]) fun v => k v H) H fun v124 H =>
qPick v118 v124 (.bool false) fun v125 =>
qG v125 true (fun k => qRes (C 9 [] H) k) H fun v127 H =>
qPick v125 v127 (.bool false) fun v128 =>
k [s0, v128, s3, s4, s5, s6, s7, s8, s9, s11, s12, s14, s22] H : R))
noncomputable def r3_11 (C : CallF) (k : KT R) : KT R := fun fr H => opn 13 fr (fun s0 s2 s3 s4 s5 s6 s7 s8 s9 s11 s12 s14 s22 => 
(qAdd X 9 s5 (.str [34,34,34,123]) fun v61 =>
qRes (C 8 [v61] H) fun v62 H =>
qExt v62 0 fun v63 =>
qExt v62 1 fun v64 =>
qExt v62 2 fun v65 =>
k [s0, s2, s3, s4, s5, s6, s7, s8, s9, s11, v63, v65, s22] H : R))
noncomputable def r3_10 (C : CallF) (k : KT R) : KT R := fun fr H => opn 13 fr (fun s0 s2 s3 s4 s5 s6 s7 s8 s9 s11 s12 s14 s22 => 
(qAdd X 9 s3 (.str [34,32,53]) fun v54 =>
qRes (C 8 [v54] H) fun v55 H =>
qExt v55 0 fun v56 =>
qExt v55 1 fun v57 =>
qExt v55 2 fun v58 =>
k [s0, s2, s3, s4, s5, s6, s7, s8, v56, v58, s12, s14, s22] H : R))
noncomputable def r3_4 (k : KT R) : KT R := fun fr H => opn 13 fr (fun s0 s2 s3 s4 s5 s6 s7 s8 s9 s11 s12 s14 s22 => 
(qAdd X 3 s7 (.int .i64 1) fun v24 =>
k [s0, s2, s3, s4, s5, s6, v24, s8, s9, s11, s12, s14, s22] H : R))
noncomputable def r3_9 (k : KT R) : KT R := fun fr H => opn 13 fr (fun s0 s2 s3 s4 s5 s6 s7 s8 s9 s11 s12 s14 s22 => 
(qBld z24 [(0, 1, (.str [97])), (1, 1, (.str [92,110])), (2, 1, (.str [34,34,34])), (3, 1, (.str [34])), (4, 1, (.str [92,117,48,48,52,49])), (5, 1, (.str [98])), (6, 1, (.str [35])), (7, 1, (.str [92,47]))] fun v47 =>
qO (indexOf X 24 v47 s8) fun v49 =>
qAdd X 9 s6 v49 fun v50 =>
qAdd X 9 v50 (.str [46]) fun v51 =>
k [s0, s2, s3, s4, s5, v51, s7, s8, s9, s11, s12, s14, s22] H : R))
noncomputable def r3_8 (k : KT R) : KT R := fun fr H => opn 13 fr (fun s0 s2 s3 s4 s5 s6 s7 s8 s9 s11 s12 s14 s22 => 
(qBld z24 [(0, 1, (.str [97])), (1, 1, (.str [92,110])), (2, 1, (.str [92,34,34,34])), (3, 1, (.str [34])), (4, 1, (.str [92,117,48,48,52,49])), (5, 1, (.str [98])), (6, 1, (.str [35])), (7, 1, (.str [92,47]))] fun v41 =>
qO (indexOf X 24 v41 s8) fun v43 =>
qAdd X 9 s5 v43 fun v44 =>
qAdd X 9 v44 (.str [46]) fun v45 =>
k [s0, s2, s3, s4, v45, s6, s7, s8, s9, s11, s12, s14, s22] H : R))
noncomputable def r3_7 (k : KT R) : KT R := fun fr H => opn 13 fr (fun s0 s2 s3 s4 s5 s6 s7 s8 s9 s11 s12 s14 s22 => 
(qBld z24 [(0, 1, (.str [97])), (1, 1, (.str [10])), (2, 1, (.str [34])), (3, 1, (.str [92])), (4, 1, (.str [65])), (5, 1, (.str [32])), (6, 1, (.str [35])), (7, 1, (.str [47]))] fun v36 =>
qO (indexOf X 24 v36 s8) fun v38 =>
qAdd X 9 s4 v38 fun v39 =>
k [s0, s2, s3, v39, s5, s6, s7, s8, s9, s11, s12, s14, s22] H : R))
noncomputable def r3_6 (k : KT R) : KT R := fun fr H => opn 13 fr (fun s0 s2 s3 s4 s5 s6 s7 s8 s9 s11 s12 s14 s22 => 
(qBld z24 [(0, 1, (.str [97])), (1, 1, (.str [92,110])), (2, 1, (.str [92,34])), (3, 1, (.str [92,92])), (4, 1, (.str [92,117,48,48,52,49])), (5, 1, (.str [32])), (6, 1, (.str [35])), (7, 1, (.str [92,47]))] fun v31 =>
qO (indexOf X 24 v31 s8) fun v33 =>
qAdd X 9 s3 v33 fun v34 =>
k [s0, s2, v34, s4, s5, s6, s7, s8, s9, s11, s12, s14, s22] H : R))
noncomputable def r3_5 (C : CallF) (k : KT R) : KT R := fun fr H => opn 13 fr (fun s0 s2 s3 s4 s5 s6 s7 s8 s9 s11 s12 s14 s22 => 
(qIa 1 s0 s7 fun v27 =>
qLd v27 H fun v28 =>
qRes (C 7 [v28, (.int .i64 8)] H) fun v29 H =>
k [s0, s2, s3, s4, s5, s6, s7, v29, s9, s11, s12, s14, s22] H : R))
noncomputable def r3_3 (k : KT R) : KT R := fun fr H => opn 13 fr (fun s0 s2 s3 s4 s5 s6 s7 s8 s9 s11 s12 s14 s22 => 
(qLenL s0 fun v17 =>
qLss X 3 s7 v17 fun v18 =>
qG v18 true (fun k => k s7 H) H fun v20 H =>
qG v18 true (fun k => qLss X 3 v20 (.int .i64 60) fun v => k v H) H fun v21 H =>
qPick v18 v21 (.bool false) fun v22 =>
k [s0, s2, s3, s4, s5, s6, s7, s8, s9, s11, s12, s14, v22] H : R))
noncomputable def l3_4 (C : CallF) (k1 : KT R) : KT R → KT R := fun k2 => (r3_3 (qCd (sel 12) (fun k4 => k4) (fun _ => k1) (qBl (fun k3 => (r3_5 C (r3_6 (r3_7 (r3_8 (r3_9 k3)))))) (r3_4 k2))))
noncomputable def r3_2 (k : KT R) : KT R := fun fr H => opn 13 fr (fun s0 s2 s3 s4 s5 s6 s7 s8 s9 s11 s12 s14 s22 => 
(k [s0, s2, s3, s4, s5, s6, (.int .i64 0), s8, s9, s11, s12, s14, s22] H : R))
noncomputable def r3_1 (k : KT R) : KT R := fun fr H => opn 13 fr (fun s0 s2 s3 s4 s5 s6 s7 s8 s9 s11 s12 s14 s22 => 
(k [s0, s2, (.str [34]), (.str []), (.str [34,34,34,120]), (.str [120]), s7, s8, s9, s11, s12, s14, s22] H : R))
noncomputable def r3_0 (k : KT R) : KT R := fun fr H => opn 13 fr (fun s0 s2 s3 s4 s5 s6 s7 s8 s9 s11 s12 s14 s22 => 
(k [s0, (.bool false), s3, s4, s5, s6, s7, s8, s9, s11, s12, s14, s22] H : R))
noncomputable def c3 (C : CallF) (l0 : List AV) (H : AH) (k : AV → AH → R) : R := opn 1 l0 (fun x0 => (qFn (fun kr => (r3_0 (r3_1 (r3_2 (qBl (fun k1 => (qLoop (l3_4 C k1))) (r3_10 C (r3_11 C (r3_12 C kr))))))))
(fun fr H => k (sel 1 fr) H) [x0, Aes.undef, Aes.undef, Aes.undef, Aes.undef, Aes.undef, Aes.undef, Aes.undef, Aes.undef, Aes.undef, Aes.undef, Aes.undef, Aes.undef] H : R))
/- refectory/refectorylaw04.LexWrong -/
noncomputable def r4_9 (C : CallF) (k : KT R) : KT R := fun fr H => opn 11 fr (fun s0 s1 s4 s5 s6 s7 s8 s9 s10 s11 s16 => 
(qLenL s9 fun v35 =>
qEql X 3 v35 (.int .i64 0) fun v36 =>
qG v36 true (fun k => k s10 H) H fun v38 H =>
qG v36 true (fun k => k s5 H) H fun v39 H =>
qG v36 true (fun k => qMul X 3 (.int .i64 2) v39 fun v => k v H) H fun v40 H =>
qG v36 true (fun k => qEql X 3 v38 v40 fun v => k v H) H fun v41 H =>
qPick v36 v41 (.bool false) fun v42 =>
qG v42 true (fun k => k s11 H) H fun v44 H =>
qG v42 true (fun k => qEql X 26 v44 (.int .i64 2) fun v => k v H) H fun v45 H =>
qPick v42 v45 (.bool false) fun v46 =>
qG v46 true (fun k => qRes (C 9 [] H) k) H fun v48 H =>
qPick v46 v48 (.bool false) fun v49 =>
k [s0, s1, v49, s5, s6, s7, s8, s9, s10, s11, s16] H : R))
noncomputable def r4_8 (C : CallF) (k : KT R) : KT R := fun fr H => opn 11 fr (fun s0 s1 s4 s5 s6 s7 s8 s9 s10 s11 s16 => 
(qAdd X 9 s6 s8 fun v28 =>
qAdd X 9 v28 (.str [32,98]) fun v29 =>
qRes (C 8 [v29] H) fun v30 H =>
qExt v30 0 fun v31 =>
qExt v30 1 fun v32 =>
qExt v30 2 fun v33 =>
k [s0, s1, s4, s5, s6, s7, s8, v31, v32, v33, s16] H : R))
noncomputable def r4_7 (C : CallF) (k : KT R) : KT R := fun fr H => opn 11 fr (fun s0 s1 s4 s5 s6 s7 s8 s9 s10 s11 s16 => 
(qBld z33 [(0, 1, (.str [37])), (1, 1, (.str [49,97])), (2, 1, (.str [48,49])), (3, 1, (.str [45])), (4, 1, (.str [34])), (5, 1, (.str [34,92,113,34])), (6, 1, (.str [34,34,34])), (7, 1, (.str [46,46])), (8, 1, (.str [116,104,105,115,95,110,97,109,101,95,105,115,95,108,111,110,103,101,114,95,116,104,97,110,95,97,110,121,95,110,97,109,101,95,109,97,121,95,98,101,95,120])), (9, 1, (.str [1]))] fun v21 =>
qRes (C 7 [s1, (.int .i64 10)] H) fun v23 H =>
qO (indexOf X 33 v21 v23) fun v24 =>
k [s0, s1, s4, s5, s6, s7, v24, s9, s10, s11, s16] H : R))
noncomputable def r4_5 (k : KT R) : KT R := fun fr H => opn 11 fr (fun s0 s1 s4 s5 s6 s7 s8 s9 s10 s11 s16 => 
(qAdd X 3 s7 (.int .i64 1) fun v18 =>
k [s0, s1, s4, s5, s6, v18, s8, s9, s10, s11, s16] H : R))
noncomputable def r4_6 (k : KT R) : KT R := fun fr H => opn 11 fr (fun s0 s1 s4 s5 s6 s7 s8 s9 s10 s11 s16 => 
(qAdd X 9 s6 (.str [97,44]) fun v20 =>
k [s0, s1, s4, s5, v20, s7, s8, s9, s10, s11, s16] H : R))
noncomputable def r4_4 (k : KT R) : KT R := fun fr H => opn 11 fr (fun s0 s1 s4 s5 s6 s7 s8 s9 s10 s11 s16 => 
(qLss X 3 s7 s5 fun v16 =>
k [s0, s1, s4, s5, s6, s7, s8, s9, s10, s11, v16] H : R))
noncomputable def l4_4 (k1 : KT R) : KT R → KT R := fun k2 => (r4_4 (qCd (sel 10) (fun k4 => k4) (fun _ => k1) (qBl (fun k3 => (r4_6 k3)) (r4_5 k2))))
noncomputable def r4_3 (k : KT R) : KT R := fun fr H => opn 11 fr (fun s0 s1 s4 s5 s6 s7 s8 s9 s10 s11 s16 => 
(k [s0, s1, s4, s5, s6, (.int .i64 0), s8, s9, s10, s11, s16] H : R))
noncomputable def r4_2 (k : KT R) : KT R := fun fr H => opn 11 fr (fun s0 s1 s4 s5 s6 s7 s8 s9 s10 s11 s16 => 
(k [s0, s1, s4, s5, (.str []), s7, s8, s9, s10, s11, s16] H : R))
noncomputable def r4_1 (C : CallF) (k : KT R) : KT R := fun fr H => opn 11 fr (fun s0 s1 s4 s5 s6 s7 s8 s9 s10 s11 s16 => 
(qRes (C 7 [s0, (.int .i64 40)] H) fun v13 H =>
k [s0, s1, s4, v13, s6, s7, s8, s9, s10, s11, s16] H : R))
noncomputable def r4_0 (k : KT R) : KT R := fun fr H => opn 11 fr (fun s0 s1 s4 s5 s6 s7 s8 s9 s10 s11 s16 => 
(k [s0, s1, (.bool false), s5, s6, s7, s8, s9, s10, s11, s16] H : R))
noncomputable def c4 (C : CallF) (l0 : List AV) (H : AH) (k : AV → AH → R) : R := opn 2 l0 (fun x0 x1 => (qFn (fun kr => (r4_0 (r4_1 C (r4_2 (r4_3 (qBl (fun k1 => (qLoop (l4_4 k1))) (r4_7 C (r4_8 C (r4_9 C kr)))))))))
(fun fr H => k (sel 2 fr) H) [x0, x1, Aes.undef, Aes.undef, Aes.undef, Aes.undef, Aes.undef, Aes.undef, Aes.undef, Aes.undef, Aes.undef] H : R))
/- refectory/refectorylaw04.LexBig -/
noncomputable def r5_15 (C : CallF) (k : KT R) : KT R := fun fr H => opn 14 fr (fun s0 s1 s4 s5 s6 s7 s8 s9 s10 s11 s12 s23 s32 s46 => 
(qEql X 26 s12 (.int .i64 0) fun v62 =>
qG v62 true (fun k => k s10 H) H fun v64 H =>
qG v62 true (fun k => qLenL v64 fun v => k v H) H fun v65 H =>
qG v62 true (fun k => k s7 H) H fun v66 H =>
qG v62 true (fun k => qEql X 3 v65 v66 fun v => k v H) H fun v67 H =>
qPick v62 v67 (.bool false) fun v68 =>
qG v68 true (fun k => qRes (C 9 [] H) k) H fun v70 H =>
qPick v68 v70 (.bool false) fun v71 =>
k [s0, s1, v71, s5, s6, s7, s8, s9, s10, s11, s12, s23, s32, s46] H : R))
noncomputable def r5_14 (C : CallF) (k : KT R) : KT R := fun fr H => opn 14 fr (fun s0 s1 s4 s5 s6 s7 s8 s9 s10 s11 s12 s23 s32 s46 => 
(qEql X 26 s12 (.int .i64 3) fun v48 =>
qG v48 true (fun k => k s11 H) H fun v50 H =>
qG v48 true (fun k => qEql X 3 v50 (.int .i64 0) fun v => k v H) H fun v51 H =>
qPick v48 v51 (.bool false) fun v52 =>
qG v52 true (fun k => k s10 H) H fun v54 H =>
qG v52 true (fun k => qLenL v54 fun v => k v H) H fun v55 H =>
qG v52 true (fun k => qEql X 3 v55 (.int .i64 0) fun v => k v H) H fun v56 H =>
qPick v52 v56 (.bool false) fun v57 =>
qG v57 true (fun k => qRes (C 9 [] H) k) H fun v59 H =>
qPick v57 v59 (.bool false) fun v60 =>
k [s0, s1, v60, s5, s6, s7, s8, s9, s10, s11, s12, s23, s32, s46] H : R))
noncomputable def r5_13 (k : KT R) : KT R := fun fr H => opn 14 fr (fun s0 s1 s4 s5 s6 s7 s8 s9 s10 s11 s12 s23 s32 s46 => 
(qGtr X 3 s5 (.int .i64 8000) fun v46 =>
k [s0, s1, s4, s5, s6, s7, s8, s9, s10, s11, s12, s23, s32, v46] H : R))
noncomputable def r5_12 (C : CallF) (k : KT R) : KT R := fun fr H => opn 14 fr (fun s0 s1 s4 s5 s6 s7 s8 s9 s10 s11 s12 s23 s32 s46 => 
(qBstr s6 H fun v40 =>
qRes (C 8 [v40] H) fun v41 H =>
qExt v41 0 fun v42 =>
qExt v41 1 fun v43 =>
qExt v41 2 fun v44 =>
k [s0, s1, s4, s5, s6, s7, s8, s9, v42, v43, v44, s23, s32, s46] H : R))
noncomputable def r5_7 (k : KT R) : KT R := fun fr H => opn 14 fr (fun s0 s1 s4 s5 s6 s7 s8 s9 s10 s11 s12 s23 s32 s46 => 
(qAdd X 3 s9 (.int .i64 1) fun v25 =>
k [s0, s1, s4, s5, s6, s7, s8, v25, s10, s11, s12, s23, s32, s46] H : R))
noncomputable def r5_11 (k : KT R) : KT R := fun fr H => opn 14 fr (fun s0 s1 s4 s5 s6 s7 s8 s9 s10 s11 s12 s23 s32 s46 => 
(qAdd X 3 s7 (.int .i64 1) fun v37 =>
k [s0, s1, s4, s5, s6, v37, s8, s9, s10, s11, s12, s23, s32, s46] H : R))
noncomputable def r5_10 (k : KT R) : KT R := fun fr H => opn 14 fr (fun s0 s1 s4 s5 s6 s7 s8 s9 s10 s11 s12 s23 s32 s46 => 
(qIa 1 s6 s9 fun v35 =>
qSt 1 v35 (.int .u8 97) H fun _ H =>
k [s0, s1, s4, s5, s6, s7, s8, s9, s10, s11, s12, s23, s32, s46] H : R))
noncomputable def r5_9 (k : KT R) : KT R := fun fr H => opn 14 fr (fun s0 s1 s4 s5 s6 s7 s8 s9 s10 s11 s12 s23 s32 s46 => 
(qRem X 3 s9 s8 fun v31 =>
qEql X 3 v31 (.int .i64 0) fun v32 =>
k [s0, s1, s4, s5, s6, s7, s8, s9, s10, s11, s12, s23, v32, s46] H : R))
noncomputable def r5_8 (k : KT R) : KT R := fun fr H => opn 14 fr (fun s0 s1 s4 s5 s6 s7 s8 s9 s10 s11 s12 s23 s32 s46 => 
(qIa 1 s6 s9 fun v28 =>
qSt 1 v28 (.int .u8 32) H fun _ H =>
k [s0, s1, s4, s5, s6, s7, s8, s9, s10, s11, s12, s23, s32, s46] H : R))
noncomputable def r5_6 (k : KT R) : KT R := fun fr H => opn 14 fr (fun s0 s1 s4 s5 s6 s7 s8 s9 s10 s11 s12 s23 s32 s46 => 
(qLss X 3 s9 s5 fun v23 =>
k [s0, s1, s4, s5, s6, s7, s8, s9, s10, s11, s12, v23, s32, s46] H : R))
noncomputable def l5_6 (k2 : KT R) : KT R → KT R := fun k3 => (r5_6 (qCd (sel 11) (fun k6 => k6) (fun _ => k2) (qBl (fun k4 => (r5_8 (r5_9 (qCd (sel 12) (fun k5 => (r5_10 (r5_11 k5))) (fun k5 => k5) k4)))) (r5_7 k3))))
noncomputable def r5_5 (k : KT R) : KT R := fun fr H => opn 14 fr (fun s0 s1 s4 s5 s6 s7 s8 s9 s10 s11 s12 s23 s32 s46 => 
(k [s0, s1, s4, s5, s6, s7, s8, (.int .i64 0), s10, s11, s12, s23, s32, s46] H : R))
noncomputable def r5_4 (C : CallF) (k : KT R) : KT R := fun fr H => opn 14 fr (fun s0 s1 s4 s5 s6 s7 s8 s9 s10 s11 s12 s23 s32 s46 => 
(qRes (C 7 [s1, (.int .i64 30)] H) fun v19 H =>
qAdd X 3 (.int .i64 2) v19 fun v20 =>
k [s0, s1, s4, s5, s6, s7, v20, s9, s10, s11, s12, s23, s32, s46] H : R))
noncomputable def r5_3 (k : KT R) : KT R := fun fr H => opn 14 fr (fun s0 s1 s4 s5 s6 s7 s8 s9 s10 s11 s12 s23 s32 s46 => 
(k [s0, s1, s4, s5, s6, (.int .i64 0), s8, s9, s10, s11, s12, s23, s32, s46] H : R))
noncomputable def r5_2 (k : KT R) : KT R := fun fr H => opn 14 fr (fun s0 s1 s4 s5 s6 s7 s8 s9 s10 s11 s12 s23 s32 s46 => 
(qMkS z5 1 1 s5 s5 H fun v17 H =>
k [s0, s1, s4, s5, v17, s7, s8, s9, s10, s11, s12, s23, s32, s46] H : R))
noncomputable def r5_1 (C : CallF) (k : KT R) : KT R := fun fr H => opn 14 fr (fun s0 s1 s4 s5 s6 s7 s8 s9 s10 s11 s12 s23 s32 s46 => 
(qRes (C 7 [s0, (.int .i64 5)] H) fun v14 H =>
qAdd X 3 (.int .i64 7998) v14 fun v15 =>
k [s0, s1, s4, v15, s6, s7, s8, s9, s10, s11, s12, s23, s32, s46] H : R))
noncomputable def r5_0 (k : KT R) : KT R := fun fr H => opn 14 fr (fun s0 s1 s4 s5 s6 s7 s8 s9 s10 s11 s12 s23 s32 s46 => 
(k [s0, s1, (.bool false), s5, s6, s7, s8, s9, s10, s11, s12, s23, s32, s46] H : R))
noncomputable def c5 (C : CallF) (l0 : List AV) (H : AH) (k : AV → AH → R) : R := opn 2 l0 (fun x0 x1 => (qFn (fun kr => (r5_0 (r5_1 C (r5_2 (r5_3 (r5_4 C (r5_5 (qBl (fun k2 => (qLoop (l5_6 k2))) (r5_12 C (r5_13 (qCd (sel 13) (fun _ => (r5_14 C kr)) (fun k1 => k1) (r5_15 C kr))))))))))))
(fun fr H => k (sel 2 fr) H) [x0, x1, Aes.undef, Aes.undef, Aes.undef, Aes.undef, Aes.undef, Aes.undef, Aes.undef, Aes.undef, Aes.undef, Aes.undef, Aes.undef, Aes.undef] H : R))
/- refectory/refectorylaw04.LexRemarks -/
noncomputable def r6_11 (C : CallF) (k : KT R) : KT R := fun fr H => opn 12 fr (fun s0 s1 s4 s5 s6 s7 s9 s10 s12 s15 s20 s32 => 
(qEql X 26 s9 (.int .i64 0) fun v56 =>
qG v56 true (fun k => k s12 H) H fun v58 H =>
qG v56 true (fun k => qEql X 26 v58 (.int .i64 0) fun v => k v H) H fun v59 H =>
qPick v56 v59 (.bool false) fun v60 =>
qG v60 true (fun k => k s7 H) H fun v62 H =>
qG v60 true (fun k => qLenL v62 fun v => k v H) H fun v63 H =>
qG v60 true (fun k => qEql X 3 v63 (.int .i64 2) fun v => k v H) H fun v64 H =>
qPick v60 v64 (.bool false) fun v65 =>
qG v65 true (fun k => k s7 H) H fun v67 H =>
qG v65 true (fun k => qIa 3 v67 (.int .i64 1) fun v => k v H) H fun v68 H =>
qG v65 true (fun k => qFa 1 v68 fun v => k v H) H fun v69 H =>
qG v65 true (fun k => qLd v69 H fun v => k v H) H fun v70 H =>
qG v65 true (fun k => qEql X 9 v70 (.str [98]) fun v => k v H) H fun v71 H =>
qPick v65 v71 (.bool false) fun v72 =>
qG v72 true (fun k => k s10 H) H fun v74 H =>
qG v72 true (fun k => qLenL v74 fun v => k v H) H fun v75 H =>
qG v72 true (fun k => qEql X 3 v75 (.int .i64 1) fun v => k v H) H fun v76 H =>
qPick v72 v76 (.bool false) fun v77 =>
qG v77 true (fun k => qRes (C 9 [] H) k) H fun v79 H =>
qPick v77 v79 (.bool false) fun v80 =>
k [s0, s1, v80, s5, s6, s7, s9, s10, s12, s15, s20, s32] H : R))
noncomputable def r6_10 (C : CallF) (k : KT R) : KT R := fun fr H => opn 12 fr (fun s0 s1 s4 s5 s6 s7 s9 s10 s12 s15 s20 s32 => 
(qAdd X 9 (.str [97,35]) s0 fun v50 =>
qRes (C 8 [v50] H) fun v51 H =>
qExt v51 0 fun v52 =>
qExt v51 1 fun v53 =>
qExt v51 2 fun v54 =>
k [s0, s1, s4, s5, s6, s7, s9, v52, v54, s15, s20, s32] H : R))
noncomputable def r6_9 (C : CallF) (k : KT R) : KT R := fun fr H => opn 12 fr (fun s0 s1 s4 s5 s6 s7 s9 s10 s12 s15 s20 s32 => 
(qAdd X 9 (.str [97,35]) s0 fun v40 =>
qAdd X 9 v40 s6 fun v42 =>
qAdd X 9 v42 (.str [98]) fun v43 =>
qRes (C 8 [v43] H) fun v44 H =>
qExt v44 0 fun v45 =>
qExt v44 1 fun v46 =>
qExt v44 2 fun v47 =>
k [s0, s1, s4, s5, s6, v45, v47, s10, s12, s15, s20, s32] H : R))
noncomputable def r6_8 (C : CallF) (k : KT R) : KT R := fun fr H => opn 12 fr (fun s0 s1 s4 s5 s6 s7 s9 s10 s12 s15 s20 s32 => 
(qBld z36 [(0, 1, (.str [10])), (1, 1, (.str [13])), (2, 1, (.str [13,10]))] fun v34 =>
qRes (C 7 [s1, (.int .i64 3)] H) fun v36 H =>
qO (indexOf X 36 v34 v36) fun v37 =>
k [s0, s1, s4, s5, v37, s7, s9, s10, s12, s15, s20, s32] H : R))
noncomputable def r6_5 (k : KT R) : KT R := fun fr H => opn 12 fr (fun s0 s1 s4 s5 s6 s7 s9 s10 s12 s15 s20 s32 => 
(qAdd X 3 s5 (.int .i64 1) fun v22 =>
k [s0, s1, s4, v22, s6, s7, s9, s10, s12, s15, s20, s32] H : R))
noncomputable def r6_7 (C : CallF) (k : KT R) : KT R := fun fr H => opn 12 fr (fun s0 s1 s4 s5 s6 s7 s9 s10 s12 s15 s20 s32 => 
(qRes (C 9 [] H) fun v33 H =>
k [s0, s1, v33, s5, s6, s7, s9, s10, s12, s15, s20, s32] H : R))
noncomputable def r6_6 (k : KT R) : KT R := fun fr H => opn 12 fr (fun s0 s1 s4 s5 s6 s7 s9 s10 s12 s15 s20 s32 => 
(qIx s0 s5 fun v25 =>
qEql X 5 v25 (.int .u8 10) fun v26 =>
qG v26 false (fun k => k s0 H) H fun v28 H =>
qG v26 false (fun k => k s5 H) H fun v29 H =>
qG v26 false (fun k => qIx v28 v29 fun v => k v H) H fun v30 H =>
qG v26 false (fun k => qEql X 5 v30 (.int .u8 13) fun v => k v H) H fun v31 H =>
qPick v26 (.bool true) v31 fun v32 =>
k [s0, s1, s4, s5, s6, s7, s9, s10, s12, s15, s20, v32] H : R))
noncomputable def r6_4 (k : KT R) : KT R := fun fr H => opn 12 fr (fun s0 s1 s4 s5 s6 s7 s9 s10 s12 s15 s20 s32 => 
(qLenS s0 fun v19 =>
qLss X 3 s5 v19 fun v20 =>
k [s0, s1, s4, s5, s6, s7, s9, s10, s12, s15, v20, s32] H : R))
noncomputable def l6_5 (C : CallF) (k1 : KT R) (kr : KT R) : KT R → KT R := fun k2 => (r6_4 (qCd (sel 10) (fun k5 => k5) (fun _ => k1) (qBl (fun k3 => (r6_6 (qCd (sel 11) (fun _ => (r6_7 C kr)) (fun k4 => k4) k3))) (r6_5 k2))))
noncomputable def r6_3 (k : KT R) : KT R := fun fr H => opn 12 fr (fun s0 s1 s4 s5 s6 s7 s9 s10 s12 s15 s20 s32 => 
(k [s0, s1, s4, (.int .i64 0), s6, s7, s9, s10, s12, s15, s20, s32] H : R))
noncomputable def r6_2 (C : CallF) (k : KT R) : KT R := fun fr H => opn 12 fr (fun s0 s1 s4 s5 s6 s7 s9 s10 s12 s15 s20 s32 => 
(qRes (C 9 [] H) fun v16 H =>
k [s0, s1, v16, s5, s6, s7, s9, s10, s12, s15, s20, s32] H : R))
noncomputable def r6_1 (k : KT R) : KT R := fun fr H => opn 12 fr (fun s0 s1 s4 s5 s6 s7 s9 s10 s12 s15 s20 s32 => 
(qLenS s0 fun v14 =>
qGtr X 3 v14 (.int .i64 500) fun v15 =>
k [s0, s1, s4, s5, s6, s7, s9, s10, s12, v15, s20, s32] H : R))
noncomputable def r6_0 (k : KT R) : KT R := fun fr H => opn 12 fr (fun s0 s1 s4 s5 s6 s7 s9 s10 s12 s15 s20 s32 => 
(k [s0, s1, (.bool false), s5, s6, s7, s9, s10, s12, s15, s20, s32] H : R))
noncomputable def c6 (C : CallF) (l0 : List AV) (H : AH) (k : AV → AH → R) : R := opn 2 l0 (fun x0 x1 => (qFn (fun kr => (r6_0 (r6_1 (qCd (sel 9) (fun _ => (r6_2 C kr)) (fun k6 => k6) (r6_3 (qBl (fun k1 => (qLoop (l6_5 C k1 kr))) (r6_8 C (r6_9 C (r6_10 C (r6_11 C kr))))))))))
(fun fr H => k (sel 2 fr) H) [x0, x1, Aes.undef, Aes.undef, Aes.undef, Aes.undef, Aes.undef, Aes.undef, Aes.undef, Aes.undef, Aes.undef, Aes.undef] H : R))
/- refectory/refectorylaw00.Place -/
noncomputable def r7_4 (k : KT R) : KT R := fun fr H => opn 5 fr (fun s0 s1 s4 s5 s10 => 
(k [s0, s1, s5, s5, s10] H : R))
noncomputable def r7_3 (k : KT R) : KT R := fun fr H => opn 5 fr (fun s0 s1 s4 s5 s10 => 
(qAdd X 3 s5 s1 fun v13 =>
k [s0, s1, s4, v13, s10] H : R))
noncomputable def r7_2 (k : KT R) : KT R := fun fr H => opn 5 fr (fun s0 s1 s4 s5 s10 => 
(qLss X 3 s5 (.int .i64 0) fun v10 =>
k [s0, s1, s4, s5, v10] H : R))
noncomputable def r7_1 (k : KT R) : KT R := fun fr H => opn 5 fr (fun s0 s1 s4 s5 s10 => 
(qRem X 3 s0 s1 fun v8 =>
k [s0, s1, s4, v8, s10] H : R))
noncomputable def r7_0 (k : KT R) : KT R := fun fr H => opn 5 fr (fun s0 s1 s4 s5 s10 => 
(k [s0, s1, (.int .i64 0), s5, s10] H : R))
noncomputable def c7 (C : CallF) (l0 : List AV) (H : AH) (k : AV → AH → R) : R := opn 2 l0 (fun x0 x1 => (qFn (fun kr => (r7_0 (r7_1 (r7_2 (qCd (sel 4) (fun k1 => (r7_3 k1)) (fun k1 => k1) (r7_4 kr))))))
(fun fr H => k (sel 2 fr) H) [x0, x1, Aes.undef, Aes.undef, Aes.undef] H : R))
/- refectory/lex.All -/
noncomputable def r8_17 (k : KT R) : KT R := fun fr H => opn 14 fr (fun s0 s2 s3 s4 s5 s6 s7 s8 s9 s12 s16 s20 s28 s43 => 
(k [s0, s5, (.int .i64 0), (.int .i64 0), s5, s6, s7, s8, s9, s12, s16, s20, s28, s43] H : R))
noncomputable def r8_16 (k : KT R) : KT R := fun fr H => opn 14 fr (fun s0 s2 s3 s4 s5 s6 s7 s8 s9 s12 s16 s20 s28 s43 => 
(qAdd X 3 s6 s9 fun v53 =>
k [s0, s2, s3, s4, s5, v53, s7, s8, s9, s12, s16, s20, s28, s43] H : R))
noncomputable def r8_15 (k : KT R) : KT R := fun fr H => opn 14 fr (fun s0 s2 s3 s4 s5 s6 s7 s8 s9 s12 s16 s20 s28 s43 => 
(qLdA 3 s8 H fun v48 =>
qRows z30 1 [(0, v48)] fun v49 =>
qApp 3 32 s5 v49 false none H fun v50 H =>
k [s0, s2, s3, s4, v50, s6, s7, s8, s9, s12, s16, s20, s28, s43] H : R))
noncomputable def r8_14 (k : KT R) : KT R := fun fr H => opn 14 fr (fun s0 s2 s3 s4 s5 s6 s7 s8 s9 s12 s16 s20 s28 s43 => 
(qFa 2 s8 fun v46 =>
qSt 1 v46 s6 H fun _ H =>
k [s0, s2, s3, s4, s5, s6, s7, s8, s9, s12, s16, s20, s28, s43] H : R))
noncomputable def r8_13 (k : KT R) : KT R := fun fr H => opn 14 fr (fun s0 s2 s3 s4 s5 s6 s7 s8 s9 s12 s16 s20 s28 s43 => 
(k [s0, (.sl [] .nil), s6, (.int .i64 2), s5, s6, s7, s8, s9, s12, s16, s20, s28, s43] H : R))
noncomputable def r8_12 (k : KT R) : KT R := fun fr H => opn 14 fr (fun s0 s2 s3 s4 s5 s6 s7 s8 s9 s12 s16 s20 s28 s43 => 
(qEql X 3 s9 (.int .i64 0) fun v43 =>
k [s0, s2, s3, s4, s5, s6, s7, s8, s9, s12, s16, s20, s28, v43] H : R))
noncomputable def r8_11 (C : CallF) (k : KT R) : KT R := fun fr H => opn 14 fr (fun s0 s2 s3 s4 s5 s6 s7 s8 s9 s12 s16 s20 s28 s43 => 
(qRes (C 13 [s7] H) fun v39 H =>
qExt v39 0 fun v40 =>
qExt v39 1 fun v41 =>
qNew (.cells z30) .ptr H fun v8 H =>
qSt 3 v8 v40 H fun _ H =>
k [s0, s2, s3, s4, s5, s6, s7, v8, v41, s12, s16, s20, s28, s43] H : R))
noncomputable def r8_8 (k : KT R) : KT R := fun fr H => opn 14 fr (fun s0 s2 s3 s4 s5 s6 s7 s8 s9 s12 s16 s20 s28 s43 => 
(qAdd X 3 s6 (.int .i64 1) fun v27 =>
k [s0, s2, s3, s4, s5, v27, s7, s8, s9, s12, s16, s20, s28, s43] H : R))
noncomputable def r8_10 (C : CallF) (k : KT R) : KT R := fun fr H => opn 14 fr (fun s0 s2 s3 s4 s5 s6 s7 s8 s9 s12 s16 s20 s28 s43 => 
(qRes (C 11 [s7, (.fn (.func 12) [] [])] H) fun v35 H =>
qAdd X 3 s6 v35 fun v36 =>
k [s0, s2, s3, s4, s5, v36, s7, s8, s9, s12, s16, s20, s28, s43] H : R))
noncomputable def r8_9 (k : KT R) : KT R := fun fr H => opn 14 fr (fun s0 s2 s3 s4 s5 s6 s7 s8 s9 s12 s16 s20 s28 s43 => 
(qIx s0 s6 fun v31 =>
qEql X 5 v31 (.int .u8 35) fun v32 =>
k [s0, s2, s3, s4, s5, s6, s7, s8, s9, s12, s16, s20, v32, s43] H : R))
noncomputable def r8_7 (C : CallF) (k : KT R) : KT R := fun fr H => opn 14 fr (fun s0 s2 s3 s4 s5 s6 s7 s8 s9 s12 s16 s20 s28 s43 => 
(qIx s0 s6 fun v23 =>
qRes (C 10 [(.str [32,9,10,13,44]), v23] H) fun v24 H =>
qGeq X 3 v24 (.int .i64 0) fun v25 =>
k [s0, s2, s3, s4, s5, s6, s7, s8, s9, s12, s16, v25, s28, s43] H : R))
noncomputable def r8_6 (k : KT R) : KT R := fun fr H => opn 14 fr (fun s0 s2 s3 s4 s5 s6 s7 s8 s9 s12 s16 s20 s28 s43 => 
(qSlc Tryd.t9.desc 0 s0 (some s6) none none fun v19 =>
k [s0, s2, s3, s4, s5, s6, v19, s8, s9, s12, s16, s20, s28, s43] H : R))
noncomputable def r8_5 (k : KT R) : KT R := fun fr H => opn 14 fr (fun s0 s2 s3 s4 s5 s6 s7 s8 s9 s12 s16 s20 s28 s43 => 
(qLenS s0 fun v15 =>
qLss X 3 s6 v15 fun v16 =>
k [s0, s2, s3, s4, s5, s6, s7, s8, s9, s12, v16, s20, s28, s43] H : R))
noncomputable def l8_8 (C : CallF) (k1 : KT R) (kr : KT R) : KT R → KT R := fun k2 => (r8_5 (qCd (sel 10) (fun k8 => k8) (fun _ => k1) (qBl (fun k3 => (r8_6 (qBl (fun k5 => (r8_7 C (qCd (sel 11) (fun _ => (r8_8 k3)) (fun k6 => (r8_9 (qCd (sel 12) (fun _ => (r8_10 C k3)) (fun k7 => k7) k6))) k5))) (r8_11 C (r8_12 (qCd (sel 13) (fun _ => (r8_13 kr)) (fun k4 => k4) (r8_14 (r8_15 (r8_16 k3))))))))) k2)))
noncomputable def r8_4 (k : KT R) : KT R := fun fr H => opn 14 fr (fun s0 s2 s3 s4 s5 s6 s7 s8 s9 s12 s16 s20 s28 s43 => 
(k [s0, s2, s3, s4, s5, (.int .i64 0), s7, s8, s9, s12, s16, s20, s28, s43] H : R))
noncomputable def r8_3 (k : KT R) : KT R := fun fr H => opn 14 fr (fun s0 s2 s3 s4 s5 s6 s7 s8 s9 s12 s16 s20 s28 s43 => 
(k [s0, s2, s3, s4, (.sl [] .nil), s6, s7, s8, s9, s12, s16, s20, s28, s43] H : R))
noncomputable def r8_2 (k : KT R) : KT R := fun fr H => opn 14 fr (fun s0 s2 s3 s4 s5 s6 s7 s8 s9 s12 s16 s20 s28 s43 => 
(k [s0, (.sl [] .nil), (.int .i64 0), (.int .i64 3), s5, s6, s7, s8, s9, s12, s16, s20, s28, s43] H : R))
noncomputable def r8_1 (k : KT R) : KT R := fun fr H => opn 14 fr (fun s0 s2 s3 s4 s5 s6 s7 s8 s9 s12 s16 s20 s28 s43 => 
(qLenS s0 fun v11 =>
qGtr X 3 v11 (.int .i64 8000) fun v12 =>
k [s0, s2, s3, s4, s5, s6, s7, s8, s9, v12, s16, s20, s28, s43] H : R))
noncomputable def r8_0 (k : KT R) : KT R := fun fr H => opn 14 fr (fun s0 s2 s3 s4 s5 s6 s7 s8 s9 s12 s16 s20 s28 s43 => 
(k [s0, (.sl [] .nil), (.int .i64 0), (.int .i64 0), s5, s6, s7, s8, s9, s12, s16, s20, s28, s43] H : R))
noncomputable def c8 (C : CallF) (l0 : List AV) (H : AH) (k : AV → AH → R) : R := opn 1 l0 (fun x0 => (qFn (fun kr => (r8_0 (r8_1 (qCd (sel 9) (fun _ => (r8_2 kr)) (fun k9 => k9) (r8_3 (r8_4 (qBl (fun k1 => (qLoop (l8_8 C k1 kr))) (r8_17 kr))))))))
(fun fr H => k (.tup [(sel 1 fr), (sel 2 fr), (sel 3 fr)]) H) [x0, Aes.undef, Aes.undef, Aes.undef, Aes.undef, Aes.undef, Aes.undef, Aes.undef, Aes.undef, Aes.undef, Aes.undef, Aes.undef, Aes.undef, Aes.undef] H : R))
/- refectory/refectorylaw04.awake -/
noncomputable def r9_2 (k : KT R) : KT R := fun fr H => opn 4 fr (fun s0 s1 s2 s3 => 
(qEql X 26 s3 (.int .i64 0) fun v10 =>
qG v10 true (fun k => k s2 H) H fun v12 H =>
qG v10 true (fun k => qEql X 3 v12 (.int .i64 0) fun v => k v H) H fun v13 H =>
qPick v10 v13 (.bool false) fun v14 =>
qG v14 true (fun k => k s1 H) H fun v16 H =>
qG v14 true (fun k => qLenL v16 fun v => k v H) H fun v17 H =>
qG v14 true (fun k => qEql X 3 v17 (.int .i64 6) fun v => k v H) H fun v18 H =>
qPick v14 v18 (.bool false) fun v19 =>
qG v19 true (fun k => k s1 H) H fun v21 H =>
qG v19 true (fun k => qIa 3 v21 (.int .i64 0) fun v => k v H) H fun v22 H =>
qG v19 true (fun k => qFa 0 v22 fun v => k v H) H fun v23 H =>
qG v19 true (fun k => qLd v23 H fun v => k v H) H fun v24 H =>
qG v19 true (fun k => qEql X 3 v24 (.int .i64 1) fun v => k v H) H fun v25 H =>
qPick v19 v25 (.bool false) fun v26 =>
qG v26 true (fun k => k s1 H) H fun v28 H =>
qG v26 true (fun k => qIa 3 v28 (.int .i64 4) fun v => k v H) H fun v29 H =>
qG v26 true (fun k => qFa 0 v29 fun v => k v H) H fun v30 H =>
qG v26 true (fun k => qLd v30 H fun v => k v H) H fun v31 H =>
qG v26 true (fun k => qEql X 3 v31 (.int .i64 2) fun v => k v H) H fun v32 H =>
qPick v26 v32 (.bool false) fun v33 =>
qG v33 true (fun k => k s1 H) H fun v35 H =>
qG v33 true (fun k => qIa 3 v35 (.int .i64 4) fun v => k v H) H fun v36 H =>
qG v33 true (fun k => qFa 1 v36 fun v => k v H) H fun v37 H =>
qG v33 true (fun k => qLd v37 H fun v => k v H) H fun v38 H =>
qG v33 true (fun k => qEql X 9 v38 (.str [45,49]) fun v => k v H) H fun v39 H =>
qPick v33 v39 (.bool false) fun v40 =>
qG v40 true (fun k => k s1 H) H fun v42 H =>
qG v40 true (fun k => qIa 3 v42 (.int .i64 5) fun v => k v H) H fun v43 H =>
qG v40 true (fun k => qFa 0 v43 fun v => k v H) H fun v44 H =>
qG v40 true (fun k => qLd v44 H fun v => k v H) H fun v45 H =>
qG v40 true (fun k => qEql X 3 v45 (.int .i64 5) fun v => k v H) H fun v46 H =>
qPick v40 v46 (.bool false) fun v47 =>
k [v47, s1, s2, s3] H : R))
noncomputable def r9_1 (C : CallF) (k : KT R) : KT R := fun fr H => opn 4 fr (fun s0 s1 s2 s3 => 
(qRes (C 8 [(.str [97,40,98,58,45,49,41])] H) fun v5 H =>
qExt v5 0 fun v6 =>
qExt v5 1 fun v7 =>
qExt v5 2 fun v8 =>
k [s0, v6, v7, v8] H : R))
noncomputable def r9_0 (k : KT R) : KT R := fun fr H => opn 4 fr (fun s0 s1 s2 s3 => 
(k [(.bool false), s1, s2, s3] H : R))
noncomputable def c9 (C : CallF) (l0 : List AV) (H : AH) (k : AV → AH → R) : R := opn 0 l0 ((qFn (fun kr => (r9_0 (r9_1 C (r9_2 kr))))
(fun fr H => k (sel 0 fr) H) [Aes.undef, Aes.undef, Aes.undef, Aes.undef] H : R))
/- strings.IndexByte -/
noncomputable def r10_1 (C : CallF) (k : KT R) : KT R := fun fr H => opn 3 fr (fun s0 s1 s4 => 
(qRes (C 14 [s0, s1] H) fun v7 H =>
k [s0, s1, v7] H : R))
noncomputable def r10_0 (k : KT R) : KT R := fun fr H => opn 3 fr (fun s0 s1 s4 => 
(k [s0, s1, (.int .i64 0)] H : R))
noncomputable def c10 (C : CallF) (l0 : List AV) (H : AH) (k : AV → AH → R) : R := opn 2 l0 (fun x0 x1 => (qFn (fun kr => (r10_0 (r10_1 C kr)))
(fun fr H => k (sel 2 fr) H) [x0, x1, Aes.undef] H : R))
/- refectory/lex.span -/
noncomputable def r11_4 (k : KT R) : KT R := fun fr H => opn 5 fr (fun s0 s1 s4 s5 s16 => 
(k [s0, s1, s5, s5, s16] H : R))
noncomputable def r11_3 (k : KT R) : KT R := fun fr H => opn 5 fr (fun s0 s1 s4 s5 s16 => 
(qAdd X 3 s5 (.int .i64 1) fun v18 =>
k [s0, s1, s4, v18, s16] H : R))
noncomputable def r11_2 (C : CallF) (k : KT R) : KT R := fun fr H => opn 5 fr (fun s0 s1 s4 s5 s16 => 
(qLenS s0 fun v8 =>
qLss X 3 s5 v8 fun v9 =>
qG v9 true (fun k => k s1 H) H fun v11 H =>
qG v9 true (fun k => k s0 H) H fun v12 H =>
qG v9 true (fun k => k s5 H) H fun v13 H =>
qG v9 true (fun k => qIx v12 v13 fun v => k v H) H fun v14 H =>
qG v9 true (fun k => qCallV C v11 [v14] H k) H fun v15 H =>
qPick v9 v15 (.bool false) fun v16 =>
k [s0, s1, s4, s5, v16] H : R))
noncomputable def l11_4 (C : CallF) (k1 : KT R) : KT R → KT R := fun k2 => (r11_2 C (qCd (sel 4) (fun k4 => k4) (fun _ => k1) (qBl (fun k3 => (r11_3 k3)) k2)))
noncomputable def r11_1 (k : KT R) : KT R := fun fr H => opn 5 fr (fun s0 s1 s4 s5 s16 => 
(k [s0, s1, s4, (.int .i64 0), s16] H : R))
noncomputable def r11_0 (k : KT R) : KT R := fun fr H => opn 5 fr (fun s0 s1 s4 s5 s16 => 
(k [s0, s1, (.int .i64 0), s5, s16] H : R))
noncomputable def c11 (C : CallF) (l0 : List AV) (H : AH) (k : AV → AH → R) : R := opn 2 l0 (fun x0 x1 => (qFn (fun kr => (r11_0 (r11_1 (qBl (fun k1 => (qLoop (l11_4 C k1))) (r11_4 kr)))))
(fun fr H => k (sel 2 fr) H) [x0, x1, Aes.undef, Aes.undef, Aes.undef] H : R))
/- refectory/lex.All$1 -/
noncomputable def r12_1 (k : KT R) : KT R := fun fr H => opn 2 fr (fun s0 s2 => 
(qNeq X 5 s0 (.int .u8 10) fun v4 =>
qG v4 true (fun k => k s0 H) H fun v6 H =>
qG v4 true (fun k => qNeq X 5 v6 (.int .u8 13) fun v => k v H) H fun v7 H =>
qPick v4 v7 (.bool false) fun v8 =>
k [s0, v8] H : R))
noncomputable def r12_0 (k : KT R) : KT R := fun fr H => opn 2 fr (fun s0 s2 => 
(k [s0, (.bool false)] H : R))
noncomputable def c12 (C : CallF) (l0 : List AV) (H : AH) (k : AV → AH → R) : R := opn 1 l0 (fun x0 => (qFn (fun kr => (r12_0 (r12_1 kr)))
(fun fr H => k (sel 1 fr) H) [x0, Aes.undef] H : R))
/- refectory/lex.token -/
noncomputable def r13_25 (k : KT R) : KT R := fun fr H => opn 21 fr (fun s0 s2 s3 s4 s5 s6 s7 s8 s9 s10 s11 s12 s15 s31 s35 s47 s53 s60 s71 s82 s86 => 
(qBld z30 [] fun v93 =>
qSt 3 s2 v93 H fun _ H =>
k [s0, s2, (.int .i64 0), s4, s5, s6, s7, s8, s9, s10, s11, s12, s15, s31, s35, s47, s53, s60, s71, s82, s86] H : R))
noncomputable def r13_9 (k : KT R) : KT R := fun fr H => opn 21 fr (fun s0 s2 s3 s4 s5 s6 s7 s8 s9 s10 s11 s12 s15 s31 s35 s47 s53 s60 s71 s82 s86 => 
(qSlc Tryd.t9.desc 0 s0 none (some s5) none fun v44 =>
qBld z30 [(0, 1, (.int .i64 3)), (1, 1, v44)] fun v45 =>
qSt 3 s2 v45 H fun _ H =>
k [s0, s2, s5, s4, s5, s6, s7, s8, s9, s10, s11, s12, s15, s31, s35, s47, s53, s60, s71, s82, s86] H : R))
noncomputable def r13_6 (k : KT R) : KT R := fun fr H => opn 21 fr (fun s0 s2 s3 s4 s5 s6 s7 s8 s9 s10 s11 s12 s15 s31 s35 s47 s53 s60 s71 s82 s86 => 
(qBld z30 [] fun v34 =>
qSt 3 s2 v34 H fun _ H =>
k [s0, s2, (.int .i64 0), s4, s5, s6, s7, s8, s9, s10, s11, s12, s15, s31, s35, s47, s53, s60, s71, s82, s86] H : R))
noncomputable def r13_8 (k : KT R) : KT R := fun fr H => opn 21 fr (fun s0 s2 s3 s4 s5 s6 s7 s8 s9 s10 s11 s12 s15 s31 s35 s47 s53 s60 s71 s82 s86 => 
(qSlc Tryd.t9.desc 0 s0 none (some s5) none fun v39 =>
qBld z30 [(0, 1, (.int .i64 2)), (1, 1, v39)] fun v40 =>
qSt 3 s2 v40 H fun _ H =>
k [s0, s2, s5, s4, s5, s6, s7, s8, s9, s10, s11, s12, s15, s31, s35, s47, s53, s60, s71, s82, s86] H : R))
noncomputable def r13_7 (k : KT R) : KT R := fun fr H => opn 21 fr (fun s0 s2 s3 s4 s5 s6 s7 s8 s9 s10 s11 s12 s15 s31 s35 s47 s53 s60 s71 s82 s86 => 
(k [s0, s2, s3, s4, s5, s6, s7, s8, s9, s10, s11, s12, s15, s31, s6, s47, s53, s60, s71, s82, s86] H : R))
noncomputable def r13_5 (k : KT R) : KT R := fun fr H => opn 21 fr (fun s0 s2 s3 s4 s5 s6 s7 s8 s9 s10 s11 s12 s15 s31 s35 s47 s53 s60 s71 s82 s86 => 
(qNot s7 fun v33 =>
k [s0, s2, s3, s4, s5, s6, s7, s8, s9, s10, s11, s12, s15, v33, s35, s47, s53, s60, s71, s82, s86] H : R))
noncomputable def r13_4 (C : CallF) (k : KT R) : KT R := fun fr H => opn 21 fr (fun s0 s2 s3 s4 s5 s6 s7 s8 s9 s10 s11 s12 s15 s31 s35 s47 s53 s60 s71 s82 s86 => 
(qSlc Tryd.t9.desc 0 s0 none (some s5) none fun v27 =>
qRes (C 18 [v27] H) fun v28 H =>
qExt v28 0 fun v29 =>
qExt v28 1 fun v30 =>
k [s0, s2, s3, s4, s5, v29, v30, s8, s9, s10, s11, s12, s15, s31, s35, s47, s53, s60, s71, s82, s86] H : R))
noncomputable def r13_3 (C : CallF) (k : KT R) : KT R := fun fr H => opn 21 fr (fun s0 s2 s3 s4 s5 s6 s7 s8 s9 s10 s11 s12 s15 s31 s35 s47 s53 s60 s71 s82 s86 => 
(qRes (C 11 [s0, (.fn (.func 16) [] [])] H) fun v23 H =>
k [s0, s2, s3, s4, v23, s6, s7, s8, s9, s10, s11, s12, s15, s31, s35, s47, s53, s60, s71, s82, s86] H : R))
noncomputable def r13_14 (k : KT R) : KT R := fun fr H => opn 21 fr (fun s0 s2 s3 s4 s5 s6 s7 s8 s9 s10 s11 s12 s15 s31 s35 s47 s53 s60 s71 s82 s86 => 
(qSlc Tryd.t9.desc 0 s0 none (some s8) none fun v57 =>
qBld z30 [(0, 1, (.int .i64 1)), (1, 1, v57)] fun v58 =>
qSt 3 s2 v58 H fun _ H =>
k [s0, s2, s8, s4, s5, s6, s7, s8, s9, s10, s11, s12, s15, s31, s35, s47, s53, s60, s71, s82, s86] H : R))
noncomputable def r13_13 (k : KT R) : KT R := fun fr H => opn 21 fr (fun s0 s2 s3 s4 s5 s6 s7 s8 s9 s10 s11 s12 s15 s31 s35 s47 s53 s60 s71 s82 s86 => 
(qBld z30 [] fun v54 =>
qSt 3 s2 v54 H fun _ H =>
k [s0, s2, (.int .i64 0), s4, s5, s6, s7, s8, s9, s10, s11, s12, s15, s31, s35, s47, s53, s60, s71, s82, s86] H : R))
noncomputable def r13_12 (k : KT R) : KT R := fun fr H => opn 21 fr (fun s0 s2 s3 s4 s5 s6 s7 s8 s9 s10 s11 s12 s15 s31 s35 s47 s53 s60 s71 s82 s86 => 
(qGtr X 3 s8 (.int .i64 40) fun v53 =>
k [s0, s2, s3, s4, s5, s6, s7, s8, s9, s10, s11, s12, s15, s31, s35, s47, v53, s60, s71, s82, s86] H : R))
noncomputable def r13_11 (C : CallF) (k : KT R) : KT R := fun fr H => opn 21 fr (fun s0 s2 s3 s4 s5 s6 s7 s8 s9 s10 s11 s12 s15 s31 s35 s47 s53 s60 s71 s82 s86 => 
(qRes (C 11 [s0, (.fn (.func 17) [] [])] H) fun v51 H =>
k [s0, s2, s3, s4, s5, s6, s7, v51, s9, s10, s11, s12, s15, s31, s35, s47, s53, s60, s71, s82, s86] H : R))
noncomputable def r13_17 (k : KT R) : KT R := fun fr H => opn 21 fr (fun s0 s2 s3 s4 s5 s6 s7 s8 s9 s10 s11 s12 s15 s31 s35 s47 s53 s60 s71 s82 s86 => 
(qBld z30 [(0, 1, (.int .i64 4)), (1, 1, s9)] fun v69 =>
qSt 3 s2 v69 H fun _ H =>
k [s0, s2, s10, s4, s5, s6, s7, s8, s9, s10, s11, s12, s15, s31, s35, s47, s53, s60, s71, s82, s86] H : R))
noncomputable def r13_16 (C : CallF) (k : KT R) : KT R := fun fr H => opn 21 fr (fun s0 s2 s3 s4 s5 s6 s7 s8 s9 s10 s11 s12 s15 s31 s35 s47 s53 s60 s71 s82 s86 => 
(qRes (C 20 [s0] H) fun v65 H =>
qExt v65 0 fun v66 =>
qExt v65 1 fun v67 =>
k [s0, s2, s3, s4, s5, s6, s7, s8, v66, v67, s11, s12, s15, s31, s35, s47, s53, s60, s71, s82, s86] H : R))
noncomputable def r13_20 (k : KT R) : KT R := fun fr H => opn 21 fr (fun s0 s2 s3 s4 s5 s6 s7 s8 s9 s10 s11 s12 s15 s31 s35 s47 s53 s60 s71 s82 s86 => 
(qBld z30 [(0, 1, (.int .i64 4)), (1, 1, s11)] fun v80 =>
qSt 3 s2 v80 H fun _ H =>
k [s0, s2, s12, s4, s5, s6, s7, s8, s9, s10, s11, s12, s15, s31, s35, s47, s53, s60, s71, s82, s86] H : R))
noncomputable def r13_19 (C : CallF) (k : KT R) : KT R := fun fr H => opn 21 fr (fun s0 s2 s3 s4 s5 s6 s7 s8 s9 s10 s11 s12 s15 s31 s35 s47 s53 s60 s71 s82 s86 => 
(qRes (C 21 [s0] H) fun v76 H =>
qExt v76 0 fun v77 =>
qExt v76 1 fun v78 =>
k [s0, s2, s3, s4, s5, s6, s7, s8, s9, s10, v77, v78, s15, s31, s35, s47, s53, s60, s71, s82, s86] H : R))
noncomputable def r13_22 (k : KT R) : KT R := fun fr H => opn 21 fr (fun s0 s2 s3 s4 s5 s6 s7 s8 s9 s10 s11 s12 s15 s31 s35 s47 s53 s60 s71 s82 s86 => 
(qBld z30 [(0, 1, (.int .i64 5)), (1, 1, (.str [46,46,46]))] fun v85 =>
qSt 3 s2 v85 H fun _ H =>
k [s0, s2, (.int .i64 3), s4, s5, s6, s7, s8, s9, s10, s11, s12, s15, s31, s35, s47, s53, s60, s71, s82, s86] H : R))
noncomputable def r13_24 (k : KT R) : KT R := fun fr H => opn 21 fr (fun s0 s2 s3 s4 s5 s6 s7 s8 s9 s10 s11 s12 s15 s31 s35 s47 s53 s60 s71 s82 s86 => 
(qSlc Tryd.t9.desc 0 s0 none (some (.int .i64 1)) none fun v91 =>
qBld z30 [(0, 1, (.int .i64 5)), (1, 1, v91)] fun v92 =>
qSt 3 s2 v92 H fun _ H =>
k [s0, s2, (.int .i64 1), s4, s5, s6, s7, s8, s9, s10, s11, s12, s15, s31, s35, s47, s53, s60, s71, s82, s86] H : R))
noncomputable def r13_23 (C : CallF) (k : KT R) : KT R := fun fr H => opn 21 fr (fun s0 s2 s3 s4 s5 s6 s7 s8 s9 s10 s11 s12 s15 s31 s35 s47 s53 s60 s71 s82 s86 => 
(qRes (C 10 [(.str [33,36,38,40,41,58,61,64,91,93,123,124,125]), s4] H) fun v88 H =>
qGeq X 3 v88 (.int .i64 0) fun v89 =>
k [s0, s2, s3, s4, s5, s6, s7, s8, s9, s10, s11, s12, s15, s31, s35, s47, s53, s60, s71, s82, v89] H : R))
noncomputable def r13_21 (C : CallF) (k : KT R) : KT R := fun fr H => opn 21 fr (fun s0 s2 s3 s4 s5 s6 s7 s8 s9 s10 s11 s12 s15 s31 s35 s47 s53 s60 s71 s82 s86 => 
(qRes (C 19 [s0, (.str [46,46,46])] H) fun v84 H =>
k [s0, s2, s3, s4, s5, s6, s7, s8, s9, s10, s11, s12, s15, s31, s35, s47, s53, s60, s71, v84, s86] H : R))
noncomputable def r13_18 (k : KT R) : KT R := fun fr H => opn 21 fr (fun s0 s2 s3 s4 s5 s6 s7 s8 s9 s10 s11 s12 s15 s31 s35 s47 s53 s60 s71 s82 s86 => 
(qEql X 5 s4 (.int .u8 34) fun v73 =>
k [s0, s2, s3, s4, s5, s6, s7, s8, s9, s10, s11, s12, s15, s31, s35, s47, s53, s60, v73, s82, s86] H : R))
noncomputable def r13_15 (C : CallF) (k : KT R) : KT R := fun fr H => opn 21 fr (fun s0 s2 s3 s4 s5 s6 s7 s8 s9 s10 s11 s12 s15 s31 s35 s47 s53 s60 s71 s82 s86 => 
(qRes (C 19 [s0, (.str [34,34,34])] H) fun v62 H =>
k [s0, s2, s3, s4, s5, s6, s7, s8, s9, s10, s11, s12, s15, s31, s35, s47, s53, v62, s71, s82, s86] H : R))
noncomputable def r13_10 (C : CallF) (k : KT R) : KT R := fun fr H => opn 21 fr (fun s0 s2 s3 s4 s5 s6 s7 s8 s9 s10 s11 s12 s15 s31 s35 s47 s53 s60 s71 s82 s86 => 
(qRes (C 17 [s4] H) fun v49 H =>
k [s0, s2, s3, s4, s5, s6, s7, s8, s9, s10, s11, s12, s15, s31, s35, v49, s53, s60, s71, s82, s86] H : R))
noncomputable def r13_2 (C : CallF) (k : KT R) : KT R := fun fr H => opn 21 fr (fun s0 s2 s3 s4 s5 s6 s7 s8 s9 s10 s11 s12 s15 s31 s35 s47 s53 s60 s71 s82 s86 => 
(qRes (C 15 [s4] H) fun v17 H =>
qG v17 false (fun k => k s4 H) H fun v19 H =>
qG v17 false (fun k => qEql X 5 v19 (.int .u8 45) fun v => k v H) H fun v20 H =>
qPick v17 (.bool true) v20 fun v21 =>
k [s0, s2, s3, s4, s5, s6, s7, s8, s9, s10, s11, s12, v21, s31, s35, s47, s53, s60, s71, s82, s86] H : R))
noncomputable def r13_1 (k : KT R) : KT R := fun fr H => opn 21 fr (fun s0 s2 s3 s4 s5 s6 s7 s8 s9 s10 s11 s12 s15 s31 s35 s47 s53 s60 s71 s82 s86 => 
(qIx s0 (.int .i64 0) fun v14 =>
k [s0, s2, s3, v14, s5, s6, s7, s8, s9, s10, s11, s12, s15, s31, s35, s47, s53, s60, s71, s82, s86] H : R))
noncomputable def r13_0 (k : KT R) : KT R := fun fr H => opn 21 fr (fun s0 s2 s3 s4 s5 s6 s7 s8 s9 s10 s11 s12 s15 s31 s35 s47 s53 s60 s71 s82 s86 => 
(qNew (.cells z30) .ptr H fun v2 H =>
k [s0, v2, (.int .i64 0), s4, s5, s6, s7, s8, s9, s10, s11, s12, s15, s31, s35, s47, s53, s60, s71, s82, s86] H : R))
noncomputable def c13 (C : CallF) (l0 : List AV) (H : AH) (k : AV → AH → R) : R := opn 1 l0 (fun x0 => (qFn (fun kr => (r13_0 (r13_1 (qBl (fun k1 => (r13_2 C (qCd (sel 12) (fun _ => (r13_3 C (r13_4 C (qBl (fun k3 => (r13_5 (qCd (sel 13) (fun _ => (r13_6 kr)) (fun k4 => (r13_7 (qCd (sel 14) (fun _ => (r13_8 kr)) (fun k5 => k5) k4))) k3))) (r13_9 kr))))) (fun k2 => (r13_10 C (qCd (sel 15) (fun _ => (r13_11 C (r13_12 (qCd (sel 16) (fun _ => (r13_13 kr)) (fun k7 => k7) (r13_14 kr))))) (fun k6 => (r13_15 C (qCd (sel 17) (fun _ => (r13_16 C (r13_17 kr))) (fun k8 => (r13_18 (qCd (sel 18) (fun _ => (r13_19 C (r13_20 kr))) (fun k9 => (r13_21 C (qCd (sel 19) (fun _ => (r13_22 kr)) (fun k10 => (r13_23 C (qCd (sel 20) (fun _ => (r13_24 kr)) (fun k11 => k11) k10))) k9))) k8))) k6))) k2))) k1))) (r13_25 kr)))))
(fun fr H => qPtr (sel 1 fr) (qLdA 3 (sel 1 fr) H fun w0 => k (.tup [w0, (sel 2 fr)]) H)) [x0, Aes.undef, Aes.undef, Aes.undef, Aes.undef, Aes.undef, Aes.undef, Aes.undef, Aes.undef, Aes.undef, Aes.undef, Aes.undef, Aes.undef, Aes.undef, Aes.undef, Aes.undef, Aes.undef, Aes.undef, Aes.undef, Aes.undef, Aes.undef] H : R))
/- internal/stringslite.IndexByte -/
noncomputable def r14_1 (C : CallF) (k : KT R) : KT R := fun fr H => opn 3 fr (fun s0 s1 s4 => 
(qRes (C 22 [s0, s1] H) fun v7 H =>
k [s0, s1, v7] H : R))
noncomputable def r14_0 (k : KT R) : KT R := fun fr H => opn 3 fr (fun s0 s1 s4 => 
(k [s0, s1, (.int .i64 0)] H : R))
noncomputable def c14 (C : CallF) (l0 : List AV) (H : AH) (k : AV → AH → R) : R := opn 2 l0 (fun x0 x1 => (qFn (fun kr => (r14_0 (r14_1 C kr)))
(fun fr H => k (sel 2 fr) H) [x0, x1, Aes.undef] H : R))
/- refectory/lex.digit -/
noncomputable def r15_1 (k : KT R) : KT R := fun fr H => opn 2 fr (fun s0 s2 => 
(qGeq X 5 s0 (.int .u8 48) fun v4 =>
qG v4 true (fun k => k s0 H) H fun v6 H =>
qG v4 true (fun k => qLeq X 5 v6 (.int .u8 57) fun v => k v H) H fun v7 H =>
qPick v4 v7 (.bool false) fun v8 =>
k [s0, v8] H : R))
noncomputable def r15_0 (k : KT R) : KT R := fun fr H => opn 2 fr (fun s0 s2 => 
(k [s0, (.bool false)] H : R))
noncomputable def c15 (C : CallF) (l0 : List AV) (H : AH) (k : AV → AH → R) : R := opn 1 l0 (fun x0 => (qFn (fun kr => (r15_0 (r15_1 kr)))
(fun fr H => k (sel 1 fr) H) [x0, Aes.undef] H : R))
/- refectory/lex.token$1 -/
noncomputable def r16_1 (C : CallF) (k : KT R) : KT R := fun fr H => opn 2 fr (fun s0 s2 => 
(qRes (C 17 [s0] H) fun v4 H =>
qG v4 false (fun k => k s0 H) H fun v6 H =>
qG v4 false (fun k => qRes (C 10 [(.str [46,43,45]), v6] H) k) H fun v7 H =>
qG v4 false (fun k => qGeq X 3 v7 (.int .i64 0) fun v => k v H) H fun v8 H =>
qPick v4 (.bool true) v8 fun v9 =>
k [s0, v9] H : R))
noncomputable def r16_0 (k : KT R) : KT R := fun fr H => opn 2 fr (fun s0 s2 => 
(k [s0, (.bool false)] H : R))
noncomputable def c16 (C : CallF) (l0 : List AV) (H : AH) (k : AV → AH → R) : R := opn 1 l0 (fun x0 => (qFn (fun kr => (r16_0 (r16_1 C kr)))
(fun fr H => k (sel 1 fr) H) [x0, Aes.undef] H : R))
/- refectory/lex.letter -/
noncomputable def r17_1 (C : CallF) (k : KT R) : KT R := fun fr H => opn 2 fr (fun s0 s2 => 
(qGeq X 5 s0 (.int .u8 97) fun v4 =>
qG v4 true (fun k => k s0 H) H fun v6 H =>
qG v4 true (fun k => qLeq X 5 v6 (.int .u8 122) fun v => k v H) H fun v7 H =>
qPick v4 v7 (.bool false) fun v8 =>
qG v8 false (fun k => k s0 H) H fun v10 H =>
qG v8 false (fun k => qGeq X 5 v10 (.int .u8 65) fun v => k v H) H fun v11 H =>
qG v8 false (fun k => k v11 H) H fun v12 H =>
qG v12 true (fun k => k s0 H) H fun v13 H =>
qG v12 true (fun k => qLeq X 5 v13 (.int .u8 90) fun v => k v H) H fun v14 H =>
qG v8 false (fun k => qPick v12 v14 (.bool false) fun v => k v H) H fun v15 H =>
qPick v8 (.bool true) v15 fun v16 =>
qG v16 false (fun k => k s0 H) H fun v18 H =>
qG v16 false (fun k => qEql X 5 v18 (.int .u8 95) fun v => k v H) H fun v19 H =>
qPick v16 (.bool true) v19 fun v20 =>
qG v20 false (fun k => k s0 H) H fun v22 H =>
qG v20 false (fun k => qRes (C 15 [v22] H) k) H fun v23 H =>
qPick v20 (.bool true) v23 fun v24 =>
k [s0, v24] H : R))
noncomputable def r17_0 (k : KT R) : KT R := fun fr H => opn 2 fr (fun s0 s2 => 
(k [s0, (.bool false)] H : R))
noncomputable def c17 (C : CallF) (l0 : List AV) (H : AH) (k : AV → AH → R) : R := opn 1 l0 (fun x0 => (qFn (fun kr => (r17_0 (r17_1 C kr)))
(fun fr H => k (sel 1 fr) H) [x0, Aes.undef] H : R))
/- refectory/jval.Number -/
noncomputable def r18_23 (k : KT R) : KT R := fun fr H => opn 15 fr (fun s0 s2 s3 s4 s5 s6 s7 s8 s11 s26 s37 s41 s52 s62 s68 => 
(qG s2 true (fun k => k s0 H) H fun v74 H =>
qG s2 true (fun k => qEql X 9 v74 (.str []) fun v => k v H) H fun v75 H =>
qPick s2 v75 (.bool false) fun v76 =>
qEql X 9 s0 (.str []) fun v78 =>
k [s0, v76, v78, s4, s5, s6, s7, s8, s11, s26, s37, s41, s52, s62, s68] H : R))
noncomputable def r18_22 (k : KT R) : KT R := fun fr H => opn 15 fr (fun s0 s2 s3 s4 s5 s6 s7 s8 s11 s26 s37 s41 s52 s62 s68 => 
(qSlc Tryd.t9.desc 0 s0 (some s8) none none fun v71 =>
k [v71, s2, s3, s4, s5, s6, s7, s8, s11, s26, s37, s41, s52, s62, s68] H : R))
noncomputable def r18_21 (k : KT R) : KT R := fun fr H => opn 15 fr (fun s0 s2 s3 s4 s5 s6 s7 s8 s11 s26 s37 s41 s52 s62 s68 => 
(k [s0, (.bool false), (.bool false), s4, s5, s6, s7, s8, s11, s26, s37, s41, s52, s62, s68] H : R))
noncomputable def r18_20 (k : KT R) : KT R := fun fr H => opn 15 fr (fun s0 s2 s3 s4 s5 s6 s7 s8 s11 s26 s37 s41 s52 s62 s68 => 
(qEql X 3 s8 (.int .i64 0) fun v68 =>
k [s0, s2, s3, s4, s5, s6, s7, s8, s11, s26, s37, s41, s52, s62, v68] H : R))
noncomputable def r18_19 (C : CallF) (k : KT R) : KT R := fun fr H => opn 15 fr (fun s0 s2 s3 s4 s5 s6 s7 s8 s11 s26 s37 s41 s52 s62 s68 => 
(qRes (C 24 [s0] H) fun v66 H =>
k [s0, s2, s3, s4, s5, s6, s7, v66, s11, s26, s37, s41, s52, s62, s68] H : R))
noncomputable def r18_18 (k : KT R) : KT R := fun fr H => opn 15 fr (fun s0 s2 s3 s4 s5 s6 s7 s8 s11 s26 s37 s41 s52 s62 s68 => 
(qSlc Tryd.t9.desc 0 s0 (some (.int .i64 1)) none none fun v64 =>
k [v64, s2, s3, s4, s5, s6, s7, s8, s11, s26, s37, s41, s52, s62, s68] H : R))
noncomputable def r18_17 (C : CallF) (k : KT R) : KT R := fun fr H => opn 15 fr (fun s0 s2 s3 s4 s5 s6 s7 s8 s11 s26 s37 s41 s52 s62 s68 => 
(qNeq X 9 s0 (.str []) fun v56 =>
qG v56 true (fun k => k s0 H) H fun v58 H =>
qG v56 true (fun k => qIx v58 (.int .i64 0) fun v => k v H) H fun v59 H =>
qG v56 true (fun k => qRes (C 10 [(.str [43,45]), v59] H) k) H fun v60 H =>
qG v56 true (fun k => qGeq X 3 v60 (.int .i64 0) fun v => k v H) H fun v61 H =>
qPick v56 v61 (.bool false) fun v62 =>
k [s0, s2, s3, s4, s5, s6, s7, s8, s11, s26, s37, s41, s52, v62, s68] H : R))
noncomputable def r18_16 (k : KT R) : KT R := fun fr H => opn 15 fr (fun s0 s2 s3 s4 s5 s6 s7 s8 s11 s26 s37 s41 s52 s62 s68 => 
(qSlc Tryd.t9.desc 0 s0 (some (.int .i64 1)) none none fun v54 =>
k [v54, s2, s3, s4, s5, s6, s7, s8, s11, s26, s37, s41, s52, s62, s68] H : R))
noncomputable def r18_15 (C : CallF) (k : KT R) : KT R := fun fr H => opn 15 fr (fun s0 s2 s3 s4 s5 s6 s7 s8 s11 s26 s37 s41 s52 s62 s68 => 
(qNeq X 9 s0 (.str []) fun v46 =>
qG v46 true (fun k => k s0 H) H fun v48 H =>
qG v46 true (fun k => qIx v48 (.int .i64 0) fun v => k v H) H fun v49 H =>
qG v46 true (fun k => qRes (C 10 [(.str [101,69]), v49] H) k) H fun v50 H =>
qG v46 true (fun k => qGeq X 3 v50 (.int .i64 0) fun v => k v H) H fun v51 H =>
qPick v46 v51 (.bool false) fun v52 =>
k [s0, s2, s3, s4, s5, s6, s7, s8, s11, s26, s37, s41, v52, s62, s68] H : R))
noncomputable def r18_14 (k : KT R) : KT R := fun fr H => opn 15 fr (fun s0 s2 s3 s4 s5 s6 s7 s8 s11 s26 s37 s41 s52 s62 s68 => 
(qSlc Tryd.t9.desc 0 s5 (some s7) none none fun v44 =>
k [v44, s2, s3, s4, s5, s6, s7, s8, s11, s26, s37, s41, s52, s62, s68] H : R))
noncomputable def r18_13 (k : KT R) : KT R := fun fr H => opn 15 fr (fun s0 s2 s3 s4 s5 s6 s7 s8 s11 s26 s37 s41 s52 s62 s68 => 
(k [s0, (.bool false), (.bool false), s4, s5, s6, s7, s8, s11, s26, s37, s41, s52, s62, s68] H : R))
noncomputable def r18_12 (k : KT R) : KT R := fun fr H => opn 15 fr (fun s0 s2 s3 s4 s5 s6 s7 s8 s11 s26 s37 s41 s52 s62 s68 => 
(qEql X 3 s7 (.int .i64 0) fun v41 =>
k [s0, s2, s3, s4, s5, s6, s7, s8, s11, s26, s37, v41, s52, s62, s68] H : R))
noncomputable def r18_11 (C : CallF) (k : KT R) : KT R := fun fr H => opn 15 fr (fun s0 s2 s3 s4 s5 s6 s7 s8 s11 s26 s37 s41 s52 s62 s68 => 
(qRes (C 24 [s5] H) fun v39 H =>
k [s0, s2, s3, s4, s5, s6, v39, s8, s11, s26, s37, s41, s52, s62, s68] H : R))
noncomputable def r18_10 (k : KT R) : KT R := fun fr H => opn 15 fr (fun s0 s2 s3 s4 s5 s6 s7 s8 s11 s26 s37 s41 s52 s62 s68 => 
(k [s0, s2, s3, s4, s5, s6, s7, s8, s11, s26, s6, s41, s52, s62, s68] H : R))
noncomputable def r18_9 (C : CallF) (k : KT R) : KT R := fun fr H => opn 15 fr (fun s0 s2 s3 s4 s5 s6 s7 s8 s11 s26 s37 s41 s52 s62 s68 => 
(qRes (C 25 [s0, (.str [46])] H) fun v34 H =>
qExt v34 0 fun v35 =>
qExt v34 1 fun v36 =>
k [s0, s2, s3, s4, v35, v36, s7, s8, s11, s26, s37, s41, s52, s62, s68] H : R))
noncomputable def r18_8 (k : KT R) : KT R := fun fr H => opn 15 fr (fun s0 s2 s3 s4 s5 s6 s7 s8 s11 s26 s37 s41 s52 s62 s68 => 
(qEql X 9 s0 (.str []) fun v31 =>
k [s0, v31, s3, s4, s5, s6, s7, s8, s11, s26, s37, s41, s52, s62, s68] H : R))
noncomputable def r18_7 (k : KT R) : KT R := fun fr H => opn 15 fr (fun s0 s2 s3 s4 s5 s6 s7 s8 s11 s26 s37 s41 s52 s62 s68 => 
(qSlc Tryd.t9.desc 0 s0 (some s4) none none fun v29 =>
k [v29, s2, s3, s4, s5, s6, s7, s8, s11, s26, s37, s41, s52, s62, s68] H : R))
noncomputable def r18_6 (k : KT R) : KT R := fun fr H => opn 15 fr (fun s0 s2 s3 s4 s5 s6 s7 s8 s11 s26 s37 s41 s52 s62 s68 => 
(k [s0, (.bool false), (.bool false), s4, s5, s6, s7, s8, s11, s26, s37, s41, s52, s62, s68] H : R))
noncomputable def r18_5 (k : KT R) : KT R := fun fr H => opn 15 fr (fun s0 s2 s3 s4 s5 s6 s7 s8 s11 s26 s37 s41 s52 s62 s68 => 
(qEql X 3 s4 (.int .i64 0) fun v17 =>
qG v17 false (fun k => k s4 H) H fun v19 H =>
qG v17 false (fun k => qGtr X 3 v19 (.int .i64 1) fun v => k v H) H fun v20 H =>
qG v17 false (fun k => k v20 H) H fun v21 H =>
qG v21 true (fun k => k s0 H) H fun v22 H =>
qG v21 true (fun k => qIx v22 (.int .i64 0) fun v => k v H) H fun v23 H =>
qG v21 true (fun k => qEql X 5 v23 (.int .u8 48) fun v => k v H) H fun v24 H =>
qG v17 false (fun k => qPick v21 v24 (.bool false) fun v => k v H) H fun v25 H =>
qPick v17 (.bool true) v25 fun v26 =>
k [s0, s2, s3, s4, s5, s6, s7, s8, s11, v26, s37, s41, s52, s62, s68] H : R))
noncomputable def r18_4 (C : CallF) (k : KT R) : KT R := fun fr H => opn 15 fr (fun s0 s2 s3 s4 s5 s6 s7 s8 s11 s26 s37 s41 s52 s62 s68 => 
(qRes (C 24 [s0] H) fun v15 H =>
k [s0, s2, s3, v15, s5, s6, s7, s8, s11, s26, s37, s41, s52, s62, s68] H : R))
noncomputable def r18_3 (C : CallF) (k : KT R) : KT R := fun fr H => opn 15 fr (fun s0 s2 s3 s4 s5 s6 s7 s8 s11 s26 s37 s41 s52 s62 s68 => 
(qRes (C 23 [s0, (.str [45])] H) fun v13 H =>
k [v13, s2, s3, s4, s5, s6, s7, s8, s11, s26, s37, s41, s52, s62, s68] H : R))
noncomputable def r18_2 (k : KT R) : KT R := fun fr H => opn 15 fr (fun s0 s2 s3 s4 s5 s6 s7 s8 s11 s26 s37 s41 s52 s62 s68 => 
(k [s0, (.bool false), (.bool false), s4, s5, s6, s7, s8, s11, s26, s37, s41, s52, s62, s68] H : R))
noncomputable def r18_1 (k : KT R) : KT R := fun fr H => opn 15 fr (fun s0 s2 s3 s4 s5 s6 s7 s8 s11 s26 s37 s41 s52 s62 s68 => 
(qLenS s0 fun v10 =>
qGtr X 3 v10 (.int .i64 40) fun v11 =>
k [s0, s2, s3, s4, s5, s6, s7, s8, v11, s26, s37, s41, s52, s62, s68] H : R))
noncomputable def r18_0 (k : KT R) : KT R := fun fr H => opn 15 fr (fun s0 s2 s3 s4 s5 s6 s7 s8 s11 s26 s37 s41 s52 s62 s68 => 
(k [s0, (.bool false), (.bool false), s4, s5, s6, s7, s8, s11, s26, s37, s41, s52, s62, s68] H : R))
noncomputable def c18 (C : CallF) (l0 : List AV) (H : AH) (k : AV → AH → R) : R := opn 1 l0 (fun x0 => (qFn (fun kr => (r18_0 (r18_1 (qCd (sel 8) (fun _ => (r18_2 kr)) (fun k7 => k7) (r18_3 C (r18_4 C (r18_5 (qCd (sel 9) (fun _ => (r18_6 kr)) (fun k6 => k6) (r18_7 (r18_8 (r18_9 C (r18_10 (qCd (sel 10) (fun k4 => (r18_11 C (r18_12 (qCd (sel 11) (fun _ => (r18_13 kr)) (fun k5 => k5) (r18_14 k4))))) (fun k4 => k4) (r18_15 C (qCd (sel 12) (fun k1 => (r18_16 (r18_17 C (qCd (sel 13) (fun k3 => (r18_18 k3)) (fun k3 => k3) (r18_19 C (r18_20 (qCd (sel 14) (fun _ => (r18_21 kr)) (fun k2 => k2) (r18_22 k1)))))))) (fun k1 => k1) (r18_23 kr))))))))))))))))
(fun fr H => k (.tup [(sel 1 fr), (sel 2 fr)]) H) [x0, Aes.undef, Aes.undef, Aes.undef, Aes.undef, Aes.undef, Aes.undef, Aes.undef, Aes.undef, Aes.undef, Aes.undef, Aes.undef, Aes.undef, Aes.undef, Aes.undef] H : R))
/- strings.HasPrefix -/
noncomputable def r19_1 (C : CallF) (k : KT R) : KT R := fun fr H => opn 3 fr (fun s0 s1 s4 => 
(qRes (C 26 [s0, s1] H) fun v7 H =>
k [s0, s1, v7] H : R))
noncomputable def r19_0 (k : KT R) : KT R := fun fr H => opn 3 fr (fun s0 s1 s4 => 
(k [s0, s1, (.bool false)] H : R))
noncomputable def c19 (C : CallF) (l0 : List AV) (H : AH) (k : AV → AH → R) : R := opn 2 l0 (fun x0 x1 => (qFn (fun kr => (r19_0 (r19_1 C kr)))
(fun fr H => k (sel 2 fr) H) [x0, x1, Aes.undef] H : R))
/- refectory/lex.block -/
noncomputable def r20_14 (k : KT R) : KT R := fun fr H => opn 10 fr (fun s0 s2 s3 s4 s5 s6 s10 s20 s26 s31 => 
(k [s0, (.str []), (.int .i64 0), s4, s5, s6, s10, s20, s26, s31] H : R))
noncomputable def r20_9 (k : KT R) : KT R := fun fr H => opn 10 fr (fun s0 s2 s3 s4 s5 s6 s10 s20 s26 s31 => 
(qAdd X 3 s5 (.int .i64 4) fun v25 =>
k [s0, s2, s3, s4, v25, s6, s10, s20, s26, s31] H : R))
noncomputable def r20_8 (C : CallF) (k : KT R) : KT R := fun fr H => opn 10 fr (fun s0 s2 s3 s4 s5 s6 s10 s20 s26 s31 => 
(qRes (C 27 [s4, (.str [34,34,34])] H) fun v23 H =>
k [s0, s2, s3, s4, s5, s6, s10, s20, s26, s31] H : R))
noncomputable def r20_13 (C : CallF) (k : KT R) : KT R := fun fr H => opn 10 fr (fun s0 s2 s3 s4 s5 s6 s10 s20 s26 s31 => 
(qRes (C 29 [s4] H) fun v32 H =>
qRes (C 30 [v32] H) fun v33 H =>
qAdd X 3 s5 (.int .i64 3) fun v35 =>
k [s0, v33, v35, s4, s5, s6, s10, s20, s26, s31] H : R))
noncomputable def r20_12 (k : KT R) : KT R := fun fr H => opn 10 fr (fun s0 s2 s3 s4 s5 s6 s10 s20 s26 s31 => 
(k [s0, (.str []), (.int .i64 0), s4, s5, s6, s10, s20, s26, s31] H : R))
noncomputable def r20_11 (C : CallF) (k : KT R) : KT R := fun fr H => opn 10 fr (fun s0 s2 s3 s4 s5 s6 s10 s20 s26 s31 => 
(qRes (C 29 [s4] H) fun v29 H =>
qRes (C 28 [v29] H) fun v30 H =>
qNot v30 fun v31 =>
k [s0, s2, s3, s4, s5, s6, s10, s20, s26, v31] H : R))
noncomputable def r20_6 (k : KT R) : KT R := fun fr H => opn 10 fr (fun s0 s2 s3 s4 s5 s6 s10 s20 s26 s31 => 
(qAdd X 3 s5 (.int .i64 1) fun v19 =>
k [s0, s2, s3, s4, v19, s6, s10, s20, s26, s31] H : R))
noncomputable def r20_5 (C : CallF) (k : KT R) : KT R := fun fr H => opn 10 fr (fun s0 s2 s3 s4 s5 s6 s10 s20 s26 s31 => 
(qIx s0 s5 fun v16 =>
qRes (C 31 [s4, v16] H) fun v17 H =>
k [s0, s2, s3, s4, s5, s6, s10, s20, s26, s31] H : R))
noncomputable def r20_10 (C : CallF) (k : KT R) : KT R := fun fr H => opn 10 fr (fun s0 s2 s3 s4 s5 s6 s10 s20 s26 s31 => 
(qRes (C 19 [s6, (.str [34,34,34])] H) fun v28 H =>
k [s0, s2, s3, s4, s5, s6, s10, s20, v28, s31] H : R))
noncomputable def r20_7 (C : CallF) (k : KT R) : KT R := fun fr H => opn 10 fr (fun s0 s2 s3 s4 s5 s6 s10 s20 s26 s31 => 
(qRes (C 19 [s6, (.str [92,34,34,34])] H) fun v22 H =>
k [s0, s2, s3, s4, s5, s6, s10, v22, s26, s31] H : R))
noncomputable def r20_4 (k : KT R) : KT R := fun fr H => opn 10 fr (fun s0 s2 s3 s4 s5 s6 s10 s20 s26 s31 => 
(qSlc Tryd.t9.desc 0 s0 (some s5) none none fun v13 =>
k [s0, s2, s3, s4, s5, v13, s10, s20, s26, s31] H : R))
noncomputable def r20_3 (k : KT R) : KT R := fun fr H => opn 10 fr (fun s0 s2 s3 s4 s5 s6 s10 s20 s26 s31 => 
(qLenS s0 fun v9 =>
qLss X 3 s5 v9 fun v10 =>
k [s0, s2, s3, s4, s5, s6, v10, s20, s26, s31] H : R))
noncomputable def l20_8 (C : CallF) (k1 : KT R) (kr : KT R) : KT R → KT R := fun k2 => (r20_3 (qCd (sel 6) (fun k8 => k8) (fun _ => k1) (qBl (fun k3 => (r20_4 (qBl (fun k4 => (r20_7 C (qCd (sel 7) (fun k5 => (r20_8 C (r20_9 k5))) (fun k5 => (r20_10 C (qCd (sel 8) (fun _ => (r20_11 C (qCd (sel 9) (fun _ => (r20_12 kr)) (fun k7 => k7) (r20_13 C kr)))) (fun k6 => (r20_5 C (r20_6 k6))) k5))) k4))) k3))) k2)))
noncomputable def r20_2 (k : KT R) : KT R := fun fr H => opn 10 fr (fun s0 s2 s3 s4 s5 s6 s10 s20 s26 s31 => 
(k [s0, s2, s3, s4, (.int .i64 3), s6, s10, s20, s26, s31] H : R))
noncomputable def r20_1 (k : KT R) : KT R := fun fr H => opn 10 fr (fun s0 s2 s3 s4 s5 s6 s10 s20 s26 s31 => 
(qNew (.obj 54 0 z54) .ptr H fun v4 H =>
k [s0, s2, s3, v4, s5, s6, s10, s20, s26, s31] H : R))
noncomputable def r20_0 (k : KT R) : KT R := fun fr H => opn 10 fr (fun s0 s2 s3 s4 s5 s6 s10 s20 s26 s31 => 
(k [s0, (.str []), (.int .i64 0), s4, s5, s6, s10, s20, s26, s31] H : R))
noncomputable def c20 (C : CallF) (l0 : List AV) (H : AH) (k : AV → AH → R) : R := opn 1 l0 (fun x0 => (qFn (fun kr => (r20_0 (r20_1 (r20_2 (qBl (fun k1 => (qLoop (l20_8 C k1 kr))) (r20_14 kr))))))
(fun fr H => k (.tup [(sel 1 fr), (sel 2 fr)]) H) [x0, Aes.undef, Aes.undef, Aes.undef, Aes.undef, Aes.undef, Aes.undef, Aes.undef, Aes.undef, Aes.undef] H : R))
/- refectory/lex.line -/
noncomputable def r21_11 (k : KT R) : KT R := fun fr H => opn 10 fr (fun s0 s2 s3 s4 s5 s6 s16 s20 s34 s44 => 
(qAdd X 3 s4 (.int .i64 1) fun v47 =>
k [s0, s5, v47, s4, s5, s6, s16, s20, s34, s44] H : R))
noncomputable def r21_10 (k : KT R) : KT R := fun fr H => opn 10 fr (fun s0 s2 s3 s4 s5 s6 s16 s20 s34 s44 => 
(k [s0, (.str []), (.int .i64 0), s4, s5, s6, s16, s20, s34, s44] H : R))
noncomputable def r21_9 (k : KT R) : KT R := fun fr H => opn 10 fr (fun s0 s2 s3 s4 s5 s6 s16 s20 s34 s44 => 
(qNot s6 fun v44 =>
k [s0, s2, s3, s4, s5, s6, s16, s20, s34, v44] H : R))
noncomputable def r21_8 (C : CallF) (k : KT R) : KT R := fun fr H => opn 10 fr (fun s0 s2 s3 s4 s5 s6 s16 s20 s34 s44 => 
(qAdd X 3 s4 (.int .i64 1) fun v38 =>
qSlc Tryd.t9.desc 0 s0 none (some v38) none fun v39 =>
qRes (C 33 [v39] H) fun v40 H =>
qExt v40 0 fun v41 =>
qExt v40 1 fun v42 =>
k [s0, s2, s3, s4, v41, v42, s16, s20, s34, s44] H : R))
noncomputable def r21_7 (k : KT R) : KT R := fun fr H => opn 10 fr (fun s0 s2 s3 s4 s5 s6 s16 s20 s34 s44 => 
(k [s0, (.str []), (.int .i64 0), s4, s5, s6, s16, s20, s34, s44] H : R))
noncomputable def r21_6 (C : CallF) (k : KT R) : KT R := fun fr H => opn 10 fr (fun s0 s2 s3 s4 s5 s6 s16 s20 s34 s44 => 
(qLenS s0 fun v27 =>
qGeq X 3 s4 v27 fun v28 =>
qG v28 false (fun k => k s0 H) H fun v30 H =>
qG v28 false (fun k => k s4 H) H fun v31 H =>
qG v28 false (fun k => qSlc Tryd.t9.desc 0 v30 none (some v31) none fun v => k v H) H fun v32 H =>
qG v28 false (fun k => qRes (C 32 [v32, (.str [10,13])] H) k) H fun v33 H =>
qPick v28 (.bool true) v33 fun v34 =>
k [s0, s2, s3, s4, s5, s6, s16, s20, v34, s44] H : R))
noncomputable def r21_5 (k : KT R) : KT R := fun fr H => opn 10 fr (fun s0 s2 s3 s4 s5 s6 s16 s20 s34 s44 => 
(qAdd X 3 s4 (.int .i64 1) fun v24 =>
k [s0, s2, s3, v24, s5, s6, s16, s20, s34, s44] H : R))
noncomputable def r21_4 (k : KT R) : KT R := fun fr H => opn 10 fr (fun s0 s2 s3 s4 s5 s6 s16 s20 s34 s44 => 
(qAdd X 3 s4 (.int .i64 1) fun v22 =>
k [s0, s2, s3, v22, s5, s6, s16, s20, s34, s44] H : R))
noncomputable def r21_3 (k : KT R) : KT R := fun fr H => opn 10 fr (fun s0 s2 s3 s4 s5 s6 s16 s20 s34 s44 => 
(qIx s0 s4 fun v19 =>
qEql X 5 v19 (.int .u8 92) fun v20 =>
k [s0, s2, s3, s4, s5, s6, s16, v20, s34, s44] H : R))
noncomputable def r21_2 (k : KT R) : KT R := fun fr H => opn 10 fr (fun s0 s2 s3 s4 s5 s6 s16 s20 s34 s44 => 
(qLenS s0 fun v9 =>
qLss X 3 s4 v9 fun v10 =>
qG v10 true (fun k => k s0 H) H fun v12 H =>
qG v10 true (fun k => k s4 H) H fun v13 H =>
qG v10 true (fun k => qIx v12 v13 fun v => k v H) H fun v14 H =>
qG v10 true (fun k => qNeq X 5 v14 (.int .u8 34) fun v => k v H) H fun v15 H =>
qPick v10 v15 (.bool false) fun v16 =>
k [s0, s2, s3, s4, s5, s6, v16, s20, s34, s44] H : R))
noncomputable def l21_7 (k3 : KT R) : KT R → KT R := fun k4 => (r21_2 (qCd (sel 6) (fun k7 => k7) (fun _ => k3) (qBl (fun k5 => (r21_3 (qCd (sel 7) (fun k6 => (r21_4 k6)) (fun k6 => k6) (r21_5 k5)))) k4)))
noncomputable def r21_1 (k : KT R) : KT R := fun fr H => opn 10 fr (fun s0 s2 s3 s4 s5 s6 s16 s20 s34 s44 => 
(k [s0, s2, s3, (.int .i64 1), s5, s6, s16, s20, s34, s44] H : R))
noncomputable def r21_0 (k : KT R) : KT R := fun fr H => opn 10 fr (fun s0 s2 s3 s4 s5 s6 s16 s20 s34 s44 => 
(k [s0, (.str []), (.int .i64 0), s4, s5, s6, s16, s20, s34, s44] H : R))
noncomputable def c21 (C : CallF) (l0 : List AV) (H : AH) (k : AV → AH → R) : R := opn 1 l0 (fun x0 => (qFn (fun kr => (r21_0 (r21_1 (qBl (fun k3 => (qLoop (l21_7 k3))) (r21_6 C (qCd (sel 8) (fun _ => (r21_7 kr)) (fun k2 => k2) (r21_8 C (r21_9 (qCd (sel 9) (fun _ => (r21_10 kr)) (fun k1 => k1) (r21_11 kr))))))))))
(fun fr H => k (.tup [(sel 1 fr), (sel 2 fr)]) H) [x0, Aes.undef, Aes.undef, Aes.undef, Aes.undef, Aes.undef, Aes.undef, Aes.undef, Aes.undef, Aes.undef] H : R))
/- strings.TrimPrefix -/
noncomputable def r23_1 (C : CallF) (k : KT R) : KT R := fun fr H => opn 3 fr (fun s0 s1 s4 => 
(qRes (C 34 [s0, s1] H) fun v7 H =>
k [s0, s1, v7] H : R))
noncomputable def r23_0 (k : KT R) : KT R := fun fr H => opn 3 fr (fun s0 s1 s4 => 
(k [s0, s1, (.str [])] H : R))
noncomputable def c23 (C : CallF) (l0 : List AV) (H : AH) (k : AV → AH → R) : R := opn 2 l0 (fun x0 x1 => (qFn (fun kr => (r23_0 (r23_1 C kr)))
(fun fr H => k (sel 2 fr) H) [x0, x1, Aes.undef] H : R))
/- refectory/jval.digits -/
noncomputable def r24_1 (C : CallF) (k : KT R) : KT R := fun fr H => opn 2 fr (fun s0 s2 => 
(qLenS s0 fun v4 =>
qRes (C 35 [s0, (.str [48,49,50,51,52,53,54,55,56,57])] H) fun v6 H =>
qLenS v6 fun v7 =>
qSub X 3 v4 v7 fun v8 =>
k [s0, v8] H : R))
noncomputable def r24_0 (k : KT R) : KT R := fun fr H => opn 2 fr (fun s0 s2 => 
(k [s0, (.int .i64 0)] H : R))
noncomputable def c24 (C : CallF) (l0 : List AV) (H : AH) (k : AV → AH → R) : R := opn 1 l0 (fun x0 => (qFn (fun kr => (r24_0 (r24_1 C kr)))
(fun fr H => k (sel 1 fr) H) [x0, Aes.undef] H : R))
/- strings.CutPrefix -/
noncomputable def r25_1 (C : CallF) (k : KT R) : KT R := fun fr H => opn 4 fr (fun s0 s1 s4 s5 => 
(qRes (C 36 [s0, s1] H) fun v8 H =>
qExt v8 0 fun v9 =>
qExt v8 1 fun v10 =>
k [s0, s1, v9, v10] H : R))
noncomputable def r25_0 (k : KT R) : KT R := fun fr H => opn 4 fr (fun s0 s1 s4 s5 => 
(k [s0, s1, (.str []), (.bool false)] H : R))
noncomputable def c25 (C : CallF) (l0 : List AV) (H : AH) (k : AV → AH → R) : R := opn 2 l0 (fun x0 x1 => (qFn (fun kr => (r25_0 (r25_1 C kr)))
(fun fr H => k (.tup [(sel 2 fr), (sel 3 fr)]) H) [x0, x1, Aes.undef, Aes.undef] H : R))
/- internal/stringslite.HasPrefix -/
noncomputable def r26_1 (k : KT R) : KT R := fun fr H => opn 3 fr (fun s0 s1 s4 => 
(qLenS s0 fun v6 =>
qLenS s1 fun v8 =>
qGeq X 3 v6 v8 fun v9 =>
qG v9 true (fun k => k s0 H) H fun v11 H =>
qG v9 true (fun k => k s1 H) H fun v12 H =>
qG v9 true (fun k => qLenS v12 fun v => k v H) H fun v13 H =>
qG v9 true (fun k => qSlc Tryd.t9.desc 0 v11 none (some v13) none fun v => k v H) H fun v14 H =>
qG v9 true (fun k => k s1 H) H fun v15 H =>
qG v9 true (fun k => qEql X 9 v14 v15 fun v => k v H) H fun v16 H =>
qPick v9 v16 (.bool false) fun v17 =>
k [s0, s1, v17] H : R))
noncomputable def r26_0 (k : KT R) : KT R := fun fr H => opn 3 fr (fun s0 s1 s4 => 
(k [s0, s1, (.bool false)] H : R))
noncomputable def c26 (C : CallF) (l0 : List AV) (H : AH) (k : AV → AH → R) : R := opn 2 l0 (fun x0 x1 => (qFn (fun kr => (r26_0 (r26_1 kr)))
(fun fr H => k (sel 2 fr) H) [x0, x1, Aes.undef] H : R))
/- (*strings.Builder).WriteString -/
noncomputable def r27_3 (k : KT R) : KT R := fun fr H => opn 4 fr (fun s0 s1 s4 s5 => 
(qLenS s1 fun v18 =>
k [s0, s1, v18, (.nilif)] H : R))
noncomputable def r27_2 (k : KT R) : KT R := fun fr H => opn 4 fr (fun s0 s1 s4 s5 => 
(qNc s0 fun v10 =>
qFa 1 v10 fun v11 =>
qLd v11 H fun v12 =>
qApp 1 1 v12 s1 true (some 5) H fun v14 H =>
qNc s0 fun v15 =>
qFa 1 v15 fun v16 =>
qSt 1 v16 v14 H fun _ H =>
k [s0, s1, s4, s5] H : R))
noncomputable def r27_1 (C : CallF) (k : KT R) : KT R := fun fr H => opn 4 fr (fun s0 s1 s4 s5 => 
(qRes (C 37 [s0] H) fun v7 H =>
k [s0, s1, s4, s5] H : R))
noncomputable def r27_0 (k : KT R) : KT R := fun fr H => opn 4 fr (fun s0 s1 s4 s5 => 
(k [s0, s1, (.int .i64 0), (.nilif)] H : R))
noncomputable def c27 (C : CallF) (l0 : List AV) (H : AH) (k : AV → AH → R) : R := opn 2 l0 (fun x0 x1 => (qFn (fun kr => (r27_0 (r27_1 C (r27_2 (r27_3 kr)))))
(fun fr H => k (.tup [(sel 2 fr), (sel 3 fr)]) H) [x0, x1, Aes.undef, Aes.undef] H : R))
/- refectory/lex.raw -/
noncomputable def r28_6 (C : CallF) (k : KT R) : KT R := fun fr H => opn 7 fr (fun s0 s2 s4 s6 s7 s8 s23 => 
(qRes (C 38 [s0] H) fun v25 H =>
k [s0, v25, s4, s6, s7, s8, s23] H : R))
noncomputable def r28_5 (k : KT R) : KT R := fun fr H => opn 7 fr (fun s0 s2 s4 s6 s7 s8 s23 => 
(k [s0, (.bool false), s4, s6, s7, s8, s23] H : R))
noncomputable def r28_4 (k : KT R) : KT R := fun fr H => opn 7 fr (fun s0 s2 s4 s6 s7 s8 s23 => 
(qLss X 21 s4 (.int .i32 32) fun v11 =>
qG v11 true (fun k => k s4 H) H fun v13 H =>
qG v11 true (fun k => qNeq X 21 v13 (.int .i32 9) fun v => k v H) H fun v14 H =>
qPick v11 v14 (.bool false) fun v15 =>
qG v15 true (fun k => k s4 H) H fun v17 H =>
qG v15 true (fun k => qNeq X 21 v17 (.int .i32 10) fun v => k v H) H fun v18 H =>
qPick v15 v18 (.bool false) fun v19 =>
qG v19 true (fun k => k s4 H) H fun v21 H =>
qG v19 true (fun k => qNeq X 21 v21 (.int .i32 13) fun v => k v H) H fun v22 H =>
qPick v19 v22 (.bool false) fun v23 =>
k [s0, s2, s4, s6, s7, s8, v23] H : R))
noncomputable def r28_3 (k : KT R) : KT R := fun fr H => opn 7 fr (fun s0 s2 s4 s6 s7 s8 s23 => 
(qExt s7 2 fun v9 =>
k [s0, s2, v9, s6, s7, s8, s23] H : R))
noncomputable def r28_2 (k : KT R) : KT R := fun fr H => opn 7 fr (fun s0 s2 s4 s6 s7 s8 s23 => 
(qNext s6 H fun v7 H =>
qExt v7 0 fun v8 =>
k [s0, s2, s4, s6, v7, v8, s23] H : R))
noncomputable def l28_5 (k1 : KT R) (kr : KT R) : KT R → KT R := fun k2 => (r28_2 (qCd (sel 5) (fun k5 => k5) (fun _ => k1) (qBl (fun k3 => (r28_3 (r28_4 (qCd (sel 6) (fun _ => (r28_5 kr)) (fun k4 => k4) k3)))) k2)))
noncomputable def r28_1 (k : KT R) : KT R := fun fr H => opn 7 fr (fun s0 s2 s4 s6 s7 s8 s23 => 
(qRange s0 H fun v6 H =>
k [s0, s2, s4, v6, s7, s8, s23] H : R))
noncomputable def r28_0 (k : KT R) : KT R := fun fr H => opn 7 fr (fun s0 s2 s4 s6 s7 s8 s23 => 
(k [s0, (.bool false), s4, s6, s7, s8, s23] H : R))
noncomputable def c28 (C : CallF) (l0 : List AV) (H : AH) (k : AV → AH → R) : R := opn 1 l0 (fun x0 => (qFn (fun kr => (r28_0 (r28_1 (qBl (fun k1 => (qLoop (l28_5 k1 kr))) (r28_6 C kr)))))
(fun fr H => k (sel 1 fr) H) [x0, Aes.undef, Aes.undef, Aes.undef, Aes.undef, Aes.undef, Aes.undef] H : R))
/- refectory/runes.Block -/
noncomputable def r30_20 (C : CallF) (k : KT R) : KT R := fun fr H => opn 18 fr (fun s0 s2 s3 s4 s6 s7 s8 s9 s15 s16 s17 s18 s35 s40 s41 s42 s73 s88 => 
(qRes (C 43 [s3, (.str [10])] H) fun v95 H =>
k [s0, v95, s3, s4, s6, s7, s8, s9, s15, s16, s17, s18, s35, s40, s41, s42, s73, s88] H : R))
noncomputable def r30_19 (k : KT R) : KT R := fun fr H => opn 18 fr (fun s0 s2 s3 s4 s6 s7 s8 s9 s15 s16 s17 s18 s35 s40 s41 s42 s73 s88 => 
(qLenL s3 fun v91 =>
qSub X 3 v91 (.int .i64 1) fun v92 =>
qSlc Tryd.t65.desc 1 s3 none (some v92) none fun v93 =>
k [s0, s2, v93, s4, s6, s7, s8, s9, s15, s16, s17, s18, s35, s40, s41, s42, s73, s88] H : R))
noncomputable def r30_18 (C : CallF) (k : KT R) : KT R := fun fr H => opn 18 fr (fun s0 s2 s3 s4 s6 s7 s8 s9 s15 s16 s17 s18 s35 s40 s41 s42 s73 s88 => 
(qLenL s3 fun v77 =>
qGtr X 3 v77 (.int .i64 0) fun v78 =>
qG v78 true (fun k => k s9 H) H fun v80 H =>
qG v78 true (fun k => k s3 H) H fun v81 H =>
qG v78 true (fun k => k s3 H) H fun v82 H =>
qG v78 true (fun k => qLenL v82 fun v => k v H) H fun v83 H =>
qG v78 true (fun k => qSub X 3 v83 (.int .i64 1) fun v => k v H) H fun v84 H =>
qG v78 true (fun k => qIa 1 v81 v84 fun v => k v H) H fun v85 H =>
qG v78 true (fun k => qLd v85 H fun v => k v H) H fun v86 H =>
qG v78 true (fun k => qCallV C v80 [v86] H k) H fun v87 H =>
qPick v78 v87 (.bool false) fun v88 =>
k [s0, s2, s3, s4, s6, s7, s8, s9, s15, s16, s17, s18, s35, s40, s41, s42, s73, v88] H : R))
noncomputable def l30_4 (C : CallF) (k1 : KT R) : KT R → KT R := fun k2 => (r30_18 C (qCd (sel 17) (fun k4 => k4) (fun _ => k1) (qBl (fun k3 => (r30_19 k3)) k2)))
noncomputable def r30_17 (k : KT R) : KT R := fun fr H => opn 18 fr (fun s0 s2 s3 s4 s6 s7 s8 s9 s15 s16 s17 s18 s35 s40 s41 s42 s73 s88 => 
(qSlc Tryd.t65.desc 1 s3 (some (.int .i64 1)) none none fun v75 =>
k [s0, s2, v75, s4, s6, s7, s8, s9, s15, s16, s17, s18, s35, s40, s41, s42, s73, s88] H : R))
noncomputable def r30_16 (C : CallF) (k : KT R) : KT R := fun fr H => opn 18 fr (fun s0 s2 s3 s4 s6 s7 s8 s9 s15 s16 s17 s18 s35 s40 s41 s42 s73 s88 => 
(qLenL s3 fun v65 =>
qGtr X 3 v65 (.int .i64 0) fun v66 =>
qG v66 true (fun k => k s9 H) H fun v68 H =>
qG v66 true (fun k => k s3 H) H fun v69 H =>
qG v66 true (fun k => qIa 1 v69 (.int .i64 0) fun v => k v H) H fun v70 H =>
qG v66 true (fun k => qLd v70 H fun v => k v H) H fun v71 H =>
qG v66 true (fun k => qCallV C v68 [v71] H k) H fun v72 H =>
qPick v66 v72 (.bool false) fun v73 =>
k [s0, s2, s3, s4, s6, s7, s8, s9, s15, s16, s17, s18, s35, s40, s41, s42, v73, s88] H : R))
noncomputable def l30_8 (C : CallF) (k5 : KT R) : KT R → KT R := fun k6 => (r30_16 C (qCd (sel 16) (fun k8 => k8) (fun _ => k5) (qBl (fun k7 => (r30_17 k7)) k6)))
noncomputable def r30_15 (k : KT R) : KT R := fun fr H => opn 18 fr (fun s0 s2 s3 s4 s6 s7 s8 s9 s15 s16 s17 s18 s35 s40 s41 s42 s73 s88 => 
(k [s0, s2, s3, s4, s6, s7, s8, (.fn (.func 42) [] []), s15, s16, s17, s18, s35, s40, s41, s42, s73, s88] H : R))
noncomputable def r30_14 (k : KT R) : KT R := fun fr H => opn 18 fr (fun s0 s2 s3 s4 s6 s7 s8 s9 s15 s16 s17 s18 s35 s40 s41 s42 s73 s88 => 
(qAdd X 3 s41 (.int .i64 1) fun v63 =>
k [s0, s2, s3, s4, s6, s7, s8, s9, s15, s16, s17, s18, s35, s40, v63, s42, s73, s88] H : R))
noncomputable def r30_13 (C : CallF) (k : KT R) : KT R := fun fr H => opn 18 fr (fun s0 s2 s3 s4 s6 s7 s8 s9 s15 s16 s17 s18 s35 s40 s41 s42 s73 s88 => 
(qAdd X 3 (.int .i64 1) s8 fun v46 =>
qAdd X 3 (.int .i64 1) s8 fun v49 =>
qIa 1 s3 v49 fun v50 =>
qLd v50 H fun v51 =>
qO (foldO max2 s4 [(.int .i64 0)]) fun v53 =>
qAdd X 3 (.int .i64 1) s8 fun v56 =>
qIa 1 s3 v56 fun v57 =>
qLd v57 H fun v58 =>
qRes (C 41 [v58] H) fun v59 H =>
qLd v50 H fun w => qSame v51 w (qO (foldO min2 v53 [v59]) fun v60 =>
qSlc Tryd.t9.desc 0 v51 (some v60) none none fun v61 =>
qIa 1 s3 v46 fun v62 =>
qSt 1 v62 v61 H fun _ H =>
k [s0, s2, s3, s4, s6, s7, s8, s9, s15, s16, s17, s18, s35, s40, s41, s42, s73, s88] H) : R))
noncomputable def r30_12 (k : KT R) : KT R := fun fr H => opn 18 fr (fun s0 s2 s3 s4 s6 s7 s8 s9 s15 s16 s17 s18 s35 s40 s41 s42 s73 s88 => 
(k [s0, s2, s3, s4, s6, s7, s41, s9, s15, s16, s17, s18, s35, s40, s41, s42, s73, s88] H : R))
noncomputable def r30_11 (k : KT R) : KT R := fun fr H => opn 18 fr (fun s0 s2 s3 s4 s6 s7 s8 s9 s15 s16 s17 s18 s35 s40 s41 s42 s73 s88 => 
(qLss X 3 s41 s40 fun v42 =>
k [s0, s2, s3, s4, s6, s7, s8, s9, s15, s16, s17, s18, s35, s40, s41, v42, s73, s88] H : R))
noncomputable def l30_12 (C : CallF) (k9 : KT R) : KT R → KT R := fun k10 => (r30_11 (qCd (sel 15) (fun k12 => k12) (fun _ => k9) (qBl (fun k11 => (r30_12 (r30_13 C k11))) (r30_14 k10))))
noncomputable def r30_10 (k : KT R) : KT R := fun fr H => opn 18 fr (fun s0 s2 s3 s4 s6 s7 s8 s9 s15 s16 s17 s18 s35 s40 s41 s42 s73 s88 => 
(qSlc Tryd.t65.desc 1 s3 (some (.int .i64 1)) none none fun v39 =>
qLenL v39 fun v40 =>
k [s0, s2, s3, s4, s6, s7, s8, s9, s15, s16, s17, s18, s35, v40, (.int .i64 0), s42, s73, s88] H : R))
noncomputable def r30_9 (k : KT R) : KT R := fun fr H => opn 18 fr (fun s0 s2 s3 s4 s6 s7 s8 s9 s15 s16 s17 s18 s35 s40 s41 s42 s73 s88 => 
(qAdd X 3 s17 (.int .i64 1) fun v37 =>
k [s0, s2, s3, s4, s6, s7, s8, s9, s15, s16, v37, s18, s35, s40, s41, s42, s73, s88] H : R))
noncomputable def r30_8 (k : KT R) : KT R := fun fr H => opn 18 fr (fun s0 s2 s3 s4 s6 s7 s8 s9 s15 s16 s17 s18 s35 s40 s41 s42 s73 s88 => 
(k [s0, s2, s3, s7, s6, s7, s8, s9, s15, s16, s17, s18, s35, s40, s41, s42, s73, s88] H : R))
noncomputable def r30_7 (k : KT R) : KT R := fun fr H => opn 18 fr (fun s0 s2 s3 s4 s6 s7 s8 s9 s15 s16 s17 s18 s35 s40 s41 s42 s73 s88 => 
(qLenS s6 fun v25 =>
qLss X 3 s7 v25 fun v26 =>
qG v26 true (fun k => k s4 H) H fun v28 H =>
qG v26 true (fun k => qLss X 3 v28 (.int .i64 0) fun v => k v H) H fun v29 H =>
qG v26 true (fun k => k v29 H) H fun v30 H =>
qG v30 false (fun k => k s7 H) H fun v31 H =>
qG v30 false (fun k => k s4 H) H fun v32 H =>
qG v30 false (fun k => qLss X 3 v31 v32 fun v => k v H) H fun v33 H =>
qG v26 true (fun k => qPick v30 (.bool true) v33 fun v => k v H) H fun v34 H =>
qPick v26 v34 (.bool false) fun v35 =>
k [s0, s2, s3, s4, s6, s7, s8, s9, s15, s16, s17, s18, v35, s40, s41, s42, s73, s88] H : R))
noncomputable def r30_6 (C : CallF) (k : KT R) : KT R := fun fr H => opn 18 fr (fun s0 s2 s3 s4 s6 s7 s8 s9 s15 s16 s17 s18 s35 s40 s41 s42 s73 s88 => 
(qRes (C 41 [s6] H) fun v22 H =>
k [s0, s2, s3, s4, s6, v22, s8, s9, s15, s16, s17, s18, s35, s40, s41, s42, s73, s88] H : R))
noncomputable def r30_5 (k : KT R) : KT R := fun fr H => opn 18 fr (fun s0 s2 s3 s4 s6 s7 s8 s9 s15 s16 s17 s18 s35 s40 s41 s42 s73 s88 => 
(qIa 1 s15 s17 fun v19 =>
qLd v19 H fun v20 =>
k [s0, s2, s3, s4, v20, s7, s8, s9, s15, s16, s17, s18, s35, s40, s41, s42, s73, s88] H : R))
noncomputable def r30_4 (k : KT R) : KT R := fun fr H => opn 18 fr (fun s0 s2 s3 s4 s6 s7 s8 s9 s15 s16 s17 s18 s35 s40 s41 s42 s73 s88 => 
(qLss X 3 s17 s16 fun v18 =>
k [s0, s2, s3, s4, s6, s7, s8, s9, s15, s16, s17, v18, s35, s40, s41, s42, s73, s88] H : R))
noncomputable def l30_17 (C : CallF) (k13 : KT R) : KT R → KT R := fun k14 => (r30_4 (qCd (sel 11) (fun k17 => k17) (fun _ => k13) (qBl (fun k15 => (r30_5 (r30_6 C (r30_7 (qCd (sel 12) (fun k16 => (r30_8 k16)) (fun k16 => k16) k15))))) (r30_9 k14))))
noncomputable def r30_3 (k : KT R) : KT R := fun fr H => opn 18 fr (fun s0 s2 s3 s4 s6 s7 s8 s9 s15 s16 s17 s18 s35 s40 s41 s42 s73 s88 => 
(qSlc Tryd.t65.desc 1 s3 (some (.int .i64 1)) none none fun v15 =>
qLenL v15 fun v16 =>
k [s0, s2, s3, s4, s6, s7, s8, s9, v15, v16, (.int .i64 0), s18, s35, s40, s41, s42, s73, s88] H : R))
noncomputable def r30_2 (k : KT R) : KT R := fun fr H => opn 18 fr (fun s0 s2 s3 s4 s6 s7 s8 s9 s15 s16 s17 s18 s35 s40 s41 s42 s73 s88 => 
(k [s0, s2, s3, (.int .i64 (-1)), s6, s7, s8, s9, s15, s16, s17, s18, s35, s40, s41, s42, s73, s88] H : R))
noncomputable def r30_1 (C : CallF) (k : KT R) : KT R := fun fr H => opn 18 fr (fun s0 s2 s3 s4 s6 s7 s8 s9 s15 s16 s17 s18 s35 s40 s41 s42 s73 s88 => 
(qRes (C 40 [s0, (.str [13,10]), (.str [10])] H) fun v11 H =>
qRes (C 40 [v11, (.str [13]), (.str [10])] H) fun v12 H =>
qRes (C 39 [v12, (.str [10])] H) fun v13 H =>
k [s0, s2, v13, s4, s6, s7, s8, s9, s15, s16, s17, s18, s35, s40, s41, s42, s73, s88] H : R))
noncomputable def r30_0 (k : KT R) : KT R := fun fr H => opn 18 fr (fun s0 s2 s3 s4 s6 s7 s8 s9 s15 s16 s17 s18 s35 s40 s41 s42 s73 s88 => 
(k [s0, (.str []), s3, s4, s6, s7, s8, s9, s15, s16, s17, s18, s35, s40, s41, s42, s73, s88] H : R))
noncomputable def c30 (C : CallF) (l0 : List AV) (H : AH) (k : AV → AH → R) : R := opn 1 l0 (fun x0 => (qFn (fun kr => (r30_0 (r30_1 C (r30_2 (r30_3 (qBl (fun k13 => (qLoop (l30_17 C k13))) (r30_10 (qBl (fun k9 => (qLoop (l30_12 C k9))) (r30_15 (qBl (fun k5 => (qLoop (l30_8 C k5))) (qBl (fun k1 => (qLoop (l30_4 C k1))) (r30_20 C kr))))))))))))
(fun fr H => k (sel 1 fr) H) [x0, Aes.undef, Aes.undef, Aes.undef, Aes.undef, Aes.undef, Aes.undef, Aes.undef, Aes.undef, Aes.undef, Aes.undef, Aes.undef, Aes.undef, Aes.undef, Aes.undef, Aes.undef, Aes.undef, Aes.undef] H : R))
/- (*strings.Builder).WriteByte -/
noncomputable def r31_3 (k : KT R) : KT R := fun fr H => opn 3 fr (fun s0 s1 s4 => 
(k [s0, s1, (.nilif)] H : R))
noncomputable def r31_2 (k : KT R) : KT R := fun fr H => opn 3 fr (fun s0 s1 s4 => 
(qNc s0 fun v9 =>
qFa 1 v9 fun v10 =>
qLd v10 H fun v11 =>
qRows z5 1 [(0, s1)] fun v13 =>
qApp 1 1 v11 v13 true (some 5) H fun v14 H =>
qNc s0 fun v15 =>
qFa 1 v15 fun v16 =>
qSt 1 v16 v14 H fun _ H =>
k [s0, s1, s4] H : R))
noncomputable def r31_1 (C : CallF) (k : KT R) : KT R := fun fr H => opn 3 fr (fun s0 s1 s4 => 
(qRes (C 37 [s0] H) fun v6 H =>
k [s0, s1, s4] H : R))
noncomputable def r31_0 (k : KT R) : KT R := fun fr H => opn 3 fr (fun s0 s1 s4 => 
(k [s0, s1, (.nilif)] H : R))
noncomputable def c31 (C : CallF) (l0 : List AV) (H : AH) (k : AV → AH → R) : R := opn 2 l0 (fun x0 x1 => (qFn (fun kr => (r31_0 (r31_1 C (r31_2 (r31_3 kr)))))
(fun fr H => k (sel 2 fr) H) [x0, x1, Aes.undef] H : R))
/- strings.ContainsAny -/
noncomputable def r32_1 (C : CallF) (k : KT R) : KT R := fun fr H => opn 3 fr (fun s0 s1 s4 => 
(qRes (C 44 [s0, s1] H) fun v7 H =>
qGeq X 3 v7 (.int .i64 0) fun v8 =>
k [s0, s1, v8] H : R))
noncomputable def r32_0 (k : KT R) : KT R := fun fr H => opn 3 fr (fun s0 s1 s4 => 
(k [s0, s1, (.bool false)] H : R))
noncomputable def c32 (C : CallF) (l0 : List AV) (H : AH) (k : AV → AH → R) : R := opn 2 l0 (fun x0 x1 => (qFn (fun kr => (r32_0 (r32_1 C kr)))
(fun fr H => k (sel 2 fr) H) [x0, x1, Aes.undef] H : R))
/- refectory/runes.Unquote -/
noncomputable def r33_27 (C : CallF) (k : KT R) : KT R := fun fr H => opn 21 fr (fun s0 s2 s3 s4 s5 s6 s7 s8 s9 s10 s31 s38 s39 s40 s49 s55 s59 s66 s71 s77 s92 => 
(qRes (C 29 [s4] H) fun v99 H =>
k [s0, v99, (.bool true), s4, s5, s6, s7, s8, s9, s10, s31, s38, s39, s40, s49, s55, s59, s66, s71, s77, s92] H : R))
noncomputable def r33_16 (k : KT R) : KT R := fun fr H => opn 21 fr (fun s0 s2 s3 s4 s5 s6 s7 s8 s9 s10 s31 s38 s39 s40 s49 s55 s59 s66 s71 s77 s92 => 
(k [s0, (.str []), (.bool false), s4, s5, s6, s7, s8, s9, s10, s31, s38, s39, s40, s49, s55, s59, s66, s71, s77, s92] H : R))
noncomputable def r33_18 (C : CallF) (k : KT R) : KT R := fun fr H => opn 21 fr (fun s0 s2 s3 s4 s5 s6 s7 s8 s9 s10 s31 s38 s39 s40 s49 s55 s59 s66 s71 s77 s92 => 
(qRes (C 45 [s4, s7] H) fun v70 H =>
k [s0, s2, s3, s4, s5, s6, s7, s8, s9, s10, s31, s38, s39, s40, s49, s55, s59, s66, s71, s77, s92] H : R))
noncomputable def r33_20 (k : KT R) : KT R := fun fr H => opn 21 fr (fun s0 s2 s3 s4 s5 s6 s7 s8 s9 s10 s31 s38 s39 s40 s49 s55 s59 s66 s71 s77 s92 => 
(k [s0, (.str []), (.bool false), s4, s5, s6, s7, s8, s9, s10, s31, s38, s39, s40, s49, s55, s59, s66, s71, s77, s92] H : R))
noncomputable def r33_26 (k : KT R) : KT R := fun fr H => opn 21 fr (fun s0 s2 s3 s4 s5 s6 s7 s8 s9 s10 s31 s38 s39 s40 s49 s55 s59 s66 s71 s77 s92 => 
(qAdd X 3 s6 (.int .i64 2) fun v96 =>
qAdd X 3 v96 s9 fun v98 =>
k [s0, s2, s3, s4, v98, s6, s7, s8, s9, s10, s31, s38, s39, s40, s49, s55, s59, s66, s71, s77, s92] H : R))
noncomputable def r33_25 (C : CallF) (k : KT R) : KT R := fun fr H => opn 21 fr (fun s0 s2 s3 s4 s5 s6 s7 s8 s9 s10 s31 s38 s39 s40 s49 s55 s59 s66 s71 s77 s92 => 
(qRes (C 45 [s4, s8] H) fun v94 H =>
k [s0, s2, s3, s4, s5, s6, s7, s8, s9, s10, s31, s38, s39, s40, s49, s55, s59, s66, s71, s77, s92] H : R))
noncomputable def r33_24 (k : KT R) : KT R := fun fr H => opn 21 fr (fun s0 s2 s3 s4 s5 s6 s7 s8 s9 s10 s31 s38 s39 s40 s49 s55 s59 s66 s71 s77 s92 => 
(k [s0, (.str []), (.bool false), s4, s5, s6, s7, s8, s9, s10, s31, s38, s39, s40, s49, s55, s59, s66, s71, s77, s92] H : R))
noncomputable def r33_23 (k : KT R) : KT R := fun fr H => opn 21 fr (fun s0 s2 s3 s4 s5 s6 s7 s8 s9 s10 s31 s38 s39 s40 s49 s55 s59 s66 s71 s77 s92 => 
(qLss X 21 s8 (.int .i32 0) fun v92 =>
k [s0, s2, s3, s4, s5, s6, s7, s8, s9, s10, s31, s38, s39, s40, s49, s55, s59, s66, s71, s77, v92] H : R))
noncomputable def r33_22 (C : CallF) (k : KT R) : KT R := fun fr H => opn 21 fr (fun s0 s2 s3 s4 s5 s6 s7 s8 s9 s10 s31 s38 s39 s40 s49 s55 s59 s66 s71 s77 s92 => 
(qAdd X 3 s6 (.int .i64 2) fun v86 =>
qSlc Tryd.t9.desc 0 s0 (some v86) none none fun v87 =>
qRes (C 46 [v87] H) fun v88 H =>
qExt v88 0 fun v89 =>
qExt v88 1 fun v90 =>
k [s0, s2, s3, s4, s5, s6, s7, v89, v90, s10, s31, s38, s39, s40, s49, s55, s59, s66, s71, s77, s92] H : R))
noncomputable def r33_13 (k : KT R) : KT R := fun fr H => opn 21 fr (fun s0 s2 s3 s4 s5 s6 s7 s8 s9 s10 s31 s38 s39 s40 s49 s55 s59 s66 s71 s77 s92 => 
(qAdd X 3 s6 (.int .i64 2) fun v54 =>
k [s0, s2, s3, s4, v54, s6, s7, s8, s9, s10, s31, s38, s39, s40, s49, s55, s59, s66, s71, s77, s92] H : R))
noncomputable def r33_12 (C : CallF) (k : KT R) : KT R := fun fr H => opn 21 fr (fun s0 s2 s3 s4 s5 s6 s7 s8 s9 s10 s31 s38 s39 s40 s49 s55 s59 s66 s71 s77 s92 => 
(qIx (.str [34,92,47,8,12,10,13,9]) s10 fun v51 =>
qRes (C 31 [s4, v51] H) fun v52 H =>
k [s0, s2, s3, s4, s5, s6, s7, s8, s9, s10, s31, s38, s39, s40, s49, s55, s59, s66, s71, s77, s92] H : R))
noncomputable def r33_11 (k : KT R) : KT R := fun fr H => opn 21 fr (fun s0 s2 s3 s4 s5 s6 s7 s8 s9 s10 s31 s38 s39 s40 s49 s55 s59 s66 s71 s77 s92 => 
(k [s0, (.str []), (.bool false), s4, s5, s6, s7, s8, s9, s10, s31, s38, s39, s40, s49, s55, s59, s66, s71, s77, s92] H : R))
noncomputable def r33_10 (k : KT R) : KT R := fun fr H => opn 21 fr (fun s0 s2 s3 s4 s5 s6 s7 s8 s9 s10 s31 s38 s39 s40 s49 s55 s59 s66 s71 s77 s92 => 
(qLss X 3 s10 (.int .i64 0) fun v49 =>
k [s0, s2, s3, s4, s5, s6, s7, s8, s9, s10, s31, s38, s39, s40, v49, s55, s59, s66, s71, s77, s92] H : R))
noncomputable def r33_9 (C : CallF) (k : KT R) : KT R := fun fr H => opn 21 fr (fun s0 s2 s3 s4 s5 s6 s7 s8 s9 s10 s31 s38 s39 s40 s49 s55 s59 s66 s71 s77 s92 => 
(qAdd X 3 s6 (.int .i64 1) fun v45 =>
qIx s0 v45 fun v46 =>
qRes (C 10 [(.str [34,92,47,98,102,110,114,116]), v46] H) fun v47 H =>
k [s0, s2, s3, s4, s5, s6, s7, s8, s9, v47, s31, s38, s39, s40, s49, s55, s59, s66, s71, s77, s92] H : R))
noncomputable def r33_21 (k : KT R) : KT R := fun fr H => opn 21 fr (fun s0 s2 s3 s4 s5 s6 s7 s8 s9 s10 s31 s38 s39 s40 s49 s55 s59 s66 s71 s77 s92 => 
(qAdd X 3 s6 (.int .i64 1) fun v80 =>
qIx s0 v80 fun v81 =>
qEql X 5 v81 (.int .u8 117) fun v82 =>
k [s0, s2, s3, s4, s5, s6, s7, s8, s9, s10, s31, s38, s39, s40, s49, s55, s59, s66, s71, v82, s92] H : R))
noncomputable def r33_19 (k : KT R) : KT R := fun fr H => opn 21 fr (fun s0 s2 s3 s4 s5 s6 s7 s8 s9 s10 s31 s38 s39 s40 s49 s55 s59 s66 s71 s77 s92 => 
(qAdd X 3 s6 (.int .i64 1) fun v73 =>
qLenS s0 fun v75 =>
qGeq X 3 v73 v75 fun v76 =>
k [s0, s2, s3, s4, s5, s6, s7, s8, s9, s10, s31, s38, s39, s40, s49, s55, s59, s66, v76, s77, s92] H : R))
noncomputable def r33_17 (k : KT R) : KT R := fun fr H => opn 21 fr (fun s0 s2 s3 s4 s5 s6 s7 s8 s9 s10 s31 s38 s39 s40 s49 s55 s59 s66 s71 s77 s92 => 
(qNeq X 21 s7 (.int .i32 92) fun v68 =>
k [s0, s2, s3, s4, s5, s6, s7, s8, s9, s10, s31, s38, s39, s40, s49, s55, s59, v68, s71, s77, s92] H : R))
noncomputable def r33_15 (k : KT R) : KT R := fun fr H => opn 21 fr (fun s0 s2 s3 s4 s5 s6 s7 s8 s9 s10 s31 s38 s39 s40 s49 s55 s59 s66 s71 s77 s92 => 
(qLss X 21 s7 (.int .i32 32) fun v61 =>
qG v61 false (fun k => k s7 H) H fun v63 H =>
qG v61 false (fun k => qEql X 21 v63 (.int .i32 34) fun v => k v H) H fun v64 H =>
qPick v61 (.bool true) v64 fun v65 =>
k [s0, s2, s3, s4, s5, s6, s7, s8, s9, s10, s31, s38, s39, s40, s49, s55, v65, s66, s71, s77, s92] H : R))
noncomputable def r33_14 (k : KT R) : KT R := fun fr H => opn 21 fr (fun s0 s2 s3 s4 s5 s6 s7 s8 s9 s10 s31 s38 s39 s40 s49 s55 s59 s66 s71 s77 s92 => 
(qLss X 3 s6 s5 fun v58 =>
k [s0, s2, s3, s4, s5, s6, s7, s8, s9, s10, s31, s38, s39, s40, s49, v58, s59, s66, s71, s77, s92] H : R))
noncomputable def r33_8 (k : KT R) : KT R := fun fr H => opn 21 fr (fun s0 s2 s3 s4 s5 s6 s7 s8 s9 s10 s31 s38 s39 s40 s49 s55 s59 s66 s71 s77 s92 => 
(qExt s39 1 fun v41 =>
qExt s39 2 fun v42 =>
k [s0, s2, s3, s4, s5, v41, v42, s8, s9, s10, s31, s38, s39, s40, s49, s55, s59, s66, s71, s77, s92] H : R))
noncomputable def r33_7 (k : KT R) : KT R := fun fr H => opn 21 fr (fun s0 s2 s3 s4 s5 s6 s7 s8 s9 s10 s31 s38 s39 s40 s49 s55 s59 s66 s71 s77 s92 => 
(qNext s38 H fun v39 H =>
qExt v39 0 fun v40 =>
k [s0, s2, s3, s4, s5, s6, s7, s8, s9, s10, s31, s38, v39, v40, s49, s55, s59, s66, s71, s77, s92] H : R))
noncomputable def l33_12 (C : CallF) (k1 : KT R) (kr : KT R) : KT R → KT R := fun k2 => (r33_7 (qCd (sel 13) (fun k12 => k12) (fun _ => k1) (qBl (fun k3 => (r33_8 (qBl (fun k4 => (r33_14 (qCd (sel 15) (fun k5 => k5) (fun k5 => (r33_15 (qCd (sel 16) (fun _ => (r33_16 kr)) (fun k6 => (r33_17 (qCd (sel 17) (fun k7 => (r33_18 C k7)) (fun k7 => (r33_19 (qCd (sel 18) (fun _ => (r33_20 kr)) (fun k8 => (r33_21 (qCd (sel 19) (fun k9 => (r33_22 C (r33_23 (qCd (sel 20) (fun _ => (r33_24 kr)) (fun k10 => k10) (r33_25 C (r33_26 k9)))))) (fun k9 => (r33_9 C (r33_10 (qCd (sel 14) (fun _ => (r33_11 kr)) (fun k11 => k11) (r33_12 C (r33_13 k9)))))) k8))) k7))) k6))) k5))) k4))) k3))) k2)))
noncomputable def r33_6 (k : KT R) : KT R := fun fr H => opn 21 fr (fun s0 s2 s3 s4 s5 s6 s7 s8 s9 s10 s31 s38 s39 s40 s49 s55 s59 s66 s71 s77 s92 => 
(qRange s0 H fun v38 H =>
k [s0, s2, s3, s4, s5, s6, s7, s8, s9, s10, s31, v38, s39, s40, s49, s55, s59, s66, s71, s77, s92] H : R))
noncomputable def r33_5 (k : KT R) : KT R := fun fr H => opn 21 fr (fun s0 s2 s3 s4 s5 s6 s7 s8 s9 s10 s31 s38 s39 s40 s49 s55 s59 s66 s71 s77 s92 => 
(k [s0, s2, s3, s4, (.int .i64 0), s6, s7, s8, s9, s10, s31, s38, s39, s40, s49, s55, s59, s66, s71, s77, s92] H : R))
noncomputable def r33_4 (k : KT R) : KT R := fun fr H => opn 21 fr (fun s0 s2 s3 s4 s5 s6 s7 s8 s9 s10 s31 s38 s39 s40 s49 s55 s59 s66 s71 s77 s92 => 
(qNew (.obj 54 0 z54) .ptr H fun v4 H =>
k [s0, s2, s3, v4, s5, s6, s7, s8, s9, s10, s31, s38, s39, s40, s49, s55, s59, s66, s71, s77, s92] H : R))
noncomputable def r33_3 (k : KT R) : KT R := fun fr H => opn 21 fr (fun s0 s2 s3 s4 s5 s6 s7 s8 s9 s10 s31 s38 s39 s40 s49 s55 s59 s66 s71 s77 s92 => 
(qLenS s0 fun v34 =>
qSub X 3 v34 (.int .i64 1) fun v35 =>
qSlc Tryd.t9.desc 0 s0 (some (.int .i64 1)) (some v35) none fun v36 =>
k [v36, s2, s3, s4, s5, s6, s7, s8, s9, s10, s31, s38, s39, s40, s49, s55, s59, s66, s71, s77, s92] H : R))
noncomputable def r33_2 (k : KT R) : KT R := fun fr H => opn 21 fr (fun s0 s2 s3 s4 s5 s6 s7 s8 s9 s10 s31 s38 s39 s40 s49 s55 s59 s66 s71 s77 s92 => 
(k [s0, (.str []), (.bool false), s4, s5, s6, s7, s8, s9, s10, s31, s38, s39, s40, s49, s55, s59, s66, s71, s77, s92] H : R))
noncomputable def r33_1 (C : CallF) (k : KT R) : KT R := fun fr H => opn 21 fr (fun s0 s2 s3 s4 s5 s6 s7 s8 s9 s10 s31 s38 s39 s40 s49 s55 s59 s66 s71 s77 s92 => 
(qLenS s0 fun v12 =>
qLss X 3 v12 (.int .i64 2) fun v13 =>
qG v13 false (fun k => k s0 H) H fun v15 H =>
qG v13 false (fun k => qIx v15 (.int .i64 0) fun v => k v H) H fun v16 H =>
qG v13 false (fun k => qNeq X 5 v16 (.int .u8 34) fun v => k v H) H fun v17 H =>
qPick v13 (.bool true) v17 fun v18 =>
qG v18 false (fun k => k s0 H) H fun v20 H =>
qG v18 false (fun k => k s0 H) H fun v21 H =>
qG v18 false (fun k => qLenS v21 fun v => k v H) H fun v22 H =>
qG v18 false (fun k => qSub X 3 v22 (.int .i64 1) fun v => k v H) H fun v23 H =>
qG v18 false (fun k => qIx v20 v23 fun v => k v H) H fun v24 H =>
qG v18 false (fun k => qNeq X 5 v24 (.int .u8 34) fun v => k v H) H fun v25 H =>
qPick v18 (.bool true) v25 fun v26 =>
qG v26 false (fun k => k s0 H) H fun v28 H =>
qG v26 false (fun k => qRes (C 38 [v28] H) k) H fun v29 H =>
qG v26 false (fun k => qNot v29 fun v => k v H) H fun v30 H =>
qPick v26 (.bool true) v30 fun v31 =>
k [s0, s2, s3, s4, s5, s6, s7, s8, s9, s10, v31, s38, s39, s40, s49, s55, s59, s66, s71, s77, s92] H : R))
noncomputable def r33_0 (k : KT R) : KT R := fun fr H => opn 21 fr (fun s0 s2 s3 s4 s5 s6 s7 s8 s9 s10 s31 s38 s39 s40 s49 s55 s59 s66 s71 s77 s92 => 
(k [s0, (.str []), (.bool false), s4, s5, s6, s7, s8, s9, s10, s31, s38, s39, s40, s49, s55, s59, s66, s71, s77, s92] H : R))
noncomputable def c33 (C : CallF) (l0 : List AV) (H : AH) (k : AV → AH → R) : R := opn 1 l0 (fun x0 => (qFn (fun kr => (r33_0 (r33_1 C (qCd (sel 10) (fun _ => (r33_2 kr)) (fun k13 => k13) (r33_3 (r33_4 (r33_5 (r33_6 (qBl (fun k1 => (qLoop (l33_12 C k1 kr))) (r33_27 C kr))))))))))
(fun fr H => k (.tup [(sel 1 fr), (sel 2 fr)]) H) [x0, Aes.undef, Aes.undef, Aes.undef, Aes.undef, Aes.undef, Aes.undef, Aes.undef, Aes.undef, Aes.undef, Aes.undef, Aes.undef, Aes.undef, Aes.undef, Aes.undef, Aes.undef, Aes.undef, Aes.undef, Aes.undef, Aes.undef, Aes.undef] H : R))
/- internal/stringslite.TrimPrefix -/
noncomputable def r34_3 (k : KT R) : KT R := fun fr H => opn 4 fr (fun s0 s1 s4 s7 => 
(k [s0, s1, s0, s7] H : R))
noncomputable def r34_2 (k : KT R) : KT R := fun fr H => opn 4 fr (fun s0 s1 s4 s7 => 
(qLenS s1 fun v10 =>
qSlc Tryd.t9.desc 0 s0 (some v10) none none fun v11 =>
k [s0, s1, v11, s7] H : R))
noncomputable def r34_1 (C : CallF) (k : KT R) : KT R := fun fr H => opn 4 fr (fun s0 s1 s4 s7 => 
(qRes (C 26 [s0, s1] H) fun v7 H =>
k [s0, s1, s4, v7] H : R))
noncomputable def r34_0 (k : KT R) : KT R := fun fr H => opn 4 fr (fun s0 s1 s4 s7 => 
(k [s0, s1, (.str []), s7] H : R))
noncomputable def c34 (C : CallF) (l0 : List AV) (H : AH) (k : AV → AH → R) : R := opn 2 l0 (fun x0 x1 => (qFn (fun kr => (r34_0 (r34_1 C (qCd (sel 3) (fun _ => (r34_2 kr)) (fun k1 => k1) (r34_3 kr)))))
(fun fr H => k (sel 2 fr) H) [x0, x1, Aes.undef, Aes.undef] H : R))
/- strings.TrimLeft -/
noncomputable def r35_8 (C : CallF) (k : KT R) : KT R := fun fr H => opn 8 fr (fun s0 s1 s4 s5 s6 s12 s21 s31 => 
(qRes (C 50 [s0, s1] H) fun v36 H =>
k [s0, s1, v36, s5, s6, s12, s21, s31] H : R))
noncomputable def r35_7 (C : CallF) (k : KT R) : KT R := fun fr H => opn 8 fr (fun s0 s1 s4 s5 s6 s12 s21 s31 => 
(qRes (C 49 [s0, s5] H) fun v33 H =>
k [s0, s1, v33, s5, s6, s12, s21, s31] H : R))
noncomputable def r35_6 (k : KT R) : KT R := fun fr H => opn 8 fr (fun s0 s1 s4 s5 s6 s12 s21 s31 => 
(k [s0, s1, s4, s5, s6, s12, s21, s6] H : R))
noncomputable def r35_5 (C : CallF) (k : KT R) : KT R := fun fr H => opn 8 fr (fun s0 s1 s4 s5 s6 s12 s21 s31 => 
(qRes (C 48 [s1] H) fun v28 H =>
qExt v28 0 fun v29 =>
qExt v28 1 fun v30 =>
qNew (.cells z75) .ptr H fun v5 H =>
qSt 256 v5 v29 H fun _ H =>
k [s0, s1, s4, v5, v30, s12, s21, s31] H : R))
noncomputable def r35_4 (C : CallF) (k : KT R) : KT R := fun fr H => opn 8 fr (fun s0 s1 s4 s5 s6 s12 s21 s31 => 
(qIx s1 (.int .i64 0) fun v24 =>
qRes (C 47 [s0, v24] H) fun v25 H =>
k [s0, s1, v25, s5, s6, s12, s21, s31] H : R))
noncomputable def r35_3 (k : KT R) : KT R := fun fr H => opn 8 fr (fun s0 s1 s4 s5 s6 s12 s21 s31 => 
(qLenS s1 fun v15 =>
qEql X 3 v15 (.int .i64 1) fun v16 =>
qG v16 true (fun k => k s1 H) H fun v18 H =>
qG v16 true (fun k => qIx v18 (.int .i64 0) fun v => k v H) H fun v19 H =>
qG v16 true (fun k => qLss X 5 v19 (.int .u8 128) fun v => k v H) H fun v20 H =>
qPick v16 v20 (.bool false) fun v21 =>
k [s0, s1, s4, s5, s6, s12, v21, s31] H : R))
noncomputable def r35_2 (k : KT R) : KT R := fun fr H => opn 8 fr (fun s0 s1 s4 s5 s6 s12 s21 s31 => 
(k [s0, s1, s0, s5, s6, s12, s21, s31] H : R))
noncomputable def r35_1 (k : KT R) : KT R := fun fr H => opn 8 fr (fun s0 s1 s4 s5 s6 s12 s21 s31 => 
(qEql X 9 s0 (.str []) fun v8 =>
qG v8 false (fun k => k s1 H) H fun v10 H =>
qG v8 false (fun k => qEql X 9 v10 (.str []) fun v => k v H) H fun v11 H =>
qPick v8 (.bool true) v11 fun v12 =>
k [s0, s1, s4, s5, s6, v12, s21, s31] H : R))
noncomputable def r35_0 (k : KT R) : KT R := fun fr H => opn 8 fr (fun s0 s1 s4 s5 s6 s12 s21 s31 => 
(k [s0, s1, (.str []), s5, s6, s12, s21, s31] H : R))
noncomputable def c35 (C : CallF) (l0 : List AV) (H : AH) (k : AV → AH → R) : R := opn 2 l0 (fun x0 x1 => (qFn (fun kr => (r35_0 (r35_1 (qCd (sel 5) (fun _ => (r35_2 kr)) (fun k3 => k3) (r35_3 (qCd (sel 6) (fun _ => (r35_4 C kr)) (fun k2 => k2) (r35_5 C (r35_6 (qCd (sel 7) (fun _ => (r35_7 C kr)) (fun k1 => k1) (r35_8 C kr))))))))))
(fun fr H => k (sel 2 fr) H) [x0, x1, Aes.undef, Aes.undef, Aes.undef, Aes.undef, Aes.undef, Aes.undef] H : R))
/- internal/stringslite.CutPrefix -/
noncomputable def r36_3 (k : KT R) : KT R := fun fr H => opn 5 fr (fun s0 s1 s4 s5 s9 => 
(qLenS s1 fun v13 =>
qSlc Tryd.t9.desc 0 s0 (some v13) none none fun v14 =>
k [s0, s1, v14, (.bool true), s9] H : R))
noncomputable def r36_2 (k : KT R) : KT R := fun fr H => opn 5 fr (fun s0 s1 s4 s5 s9 => 
(k [s0, s1, s0, (.bool false), s9] H : R))
noncomputable def r36_1 (C : CallF) (k : KT R) : KT R := fun fr H => opn 5 fr (fun s0 s1 s4 s5 s9 => 
(qRes (C 26 [s0, s1] H) fun v8 H =>
qNot v8 fun v9 =>
k [s0, s1, s4, s5, v9] H : R))
noncomputable def r36_0 (k : KT R) : KT R := fun fr H => opn 5 fr (fun s0 s1 s4 s5 s9 => 
(k [s0, s1, (.str []), (.bool false), s9] H : R))
noncomputable def c36 (C : CallF) (l0 : List AV) (H : AH) (k : AV → AH → R) : R := opn 2 l0 (fun x0 x1 => (qFn (fun kr => (r36_0 (r36_1 C (qCd (sel 4) (fun _ => (r36_2 kr)) (fun k1 => k1) (r36_3 kr)))))
(fun fr H => k (.tup [(sel 2 fr), (sel 3 fr)]) H) [x0, x1, Aes.undef, Aes.undef, Aes.undef] H : R))
/- refectory/runes.Valid -/
noncomputable def r38_1 (C : CallF) (k : KT R) : KT R := fun fr H => opn 2 fr (fun s0 s2 => 
(qRes (C 52 [s0] H) fun v4 H =>
k [s0, v4] H : R))
noncomputable def r38_0 (k : KT R) : KT R := fun fr H => opn 2 fr (fun s0 s2 => 
(k [s0, (.bool false)] H : R))
noncomputable def c38 (C : CallF) (l0 : List AV) (H : AH) (k : AV → AH → R) : R := opn 1 l0 (fun x0 => (qFn (fun kr => (r38_0 (r38_1 C kr)))
(fun fr H => k (sel 1 fr) H) [x0, Aes.undef] H : R))
/- strings.Split -/
noncomputable def r39_1 (C : CallF) (k : KT R) : KT R := fun fr H => opn 3 fr (fun s0 s1 s4 => 
(qRes (C 53 [s0, s1, (.int .i64 0), (.int .i64 (-1))] H) fun v7 H =>
k [s0, s1, v7] H : R))
noncomputable def r39_0 (k : KT R) : KT R := fun fr H => opn 3 fr (fun s0 s1 s4 => 
(k [s0, s1, (.sl [] .nil)] H : R))
noncomputable def c39 (C : CallF) (l0 : List AV) (H : AH) (k : AV → AH → R) : R := opn 2 l0 (fun x0 x1 => (qFn (fun kr => (r39_0 (r39_1 C kr)))
(fun fr H => k (sel 2 fr) H) [x0, x1, Aes.undef] H : R))
/- strings.ReplaceAll -/
noncomputable def r40_1 (C : CallF) (k : KT R) : KT R := fun fr H => opn 4 fr (fun s0 s1 s2 s6 => 
(qRes (C 54 [s0, s1, s2, (.int .i64 (-1))] H) fun v10 H =>
k [s0, s1, s2, v10] H : R))
noncomputable def r40_0 (k : KT R) : KT R := fun fr H => opn 4 fr (fun s0 s1 s2 s6 => 
(k [s0, s1, s2, (.str [])] H : R))
noncomputable def c40 (C : CallF) (l0 : List AV) (H : AH) (k : AV → AH → R) : R := opn 3 l0 (fun x0 x1 x2 => (qFn (fun kr => (r40_0 (r40_1 C kr)))
(fun fr H => k (sel 3 fr) H) [x0, x1, x2, Aes.undef] H : R))
/- refectory/runes.indent -/
noncomputable def r41_1 (C : CallF) (k : KT R) : KT R := fun fr H => opn 2 fr (fun s0 s2 => 
(qLenS s0 fun v4 =>
qRes (C 35 [s0, (.str [32,9])] H) fun v6 H =>
qLenS v6 fun v7 =>
qSub X 3 v4 v7 fun v8 =>
k [s0, v8] H : R))
noncomputable def r41_0 (k : KT R) : KT R := fun fr H => opn 2 fr (fun s0 s2 => 
(k [s0, (.int .i64 0)] H : R))
noncomputable def c41 (C : CallF) (l0 : List AV) (H : AH) (k : AV → AH → R) : R := opn 1 l0 (fun x0 => (qFn (fun kr => (r41_0 (r41_1 C kr)))
(fun fr H => k (sel 1 fr) H) [x0, Aes.undef] H : R))
/- refectory/runes.Block$1 -/
noncomputable def r42_1 (C : CallF) (k : KT R) : KT R := fun fr H => opn 2 fr (fun s0 s2 => 
(qRes (C 41 [s0] H) fun v4 H =>
qLenS s0 fun v6 =>
qEql X 3 v4 v6 fun v7 =>
k [s0, v7] H : R))
noncomputable def r42_0 (k : KT R) : KT R := fun fr H => opn 2 fr (fun s0 s2 => 
(k [s0, (.bool false)] H : R))
noncomputable def c42 (C : CallF) (l0 : List AV) (H : AH) (k : AV → AH → R) : R := opn 1 l0 (fun x0 => (qFn (fun kr => (r42_0 (r42_1 C kr)))
(fun fr H => k (sel 1 fr) H) [x0, Aes.undef] H : R))
/- strings.IndexAny -/
noncomputable def r44_22 (k : KT R) : KT R := fun fr H => opn 20 fr (fun s0 s1 s4 s5 s6 s7 s8 s9 s10 s12 s15 s20 s26 s32 s36 s42 s45 s46 s47 s53 => 
(k [s0, s1, (.int .i64 (-1)), s5, s6, s7, s8, s9, s10, s12, s15, s20, s26, s32, s36, s42, s45, s46, s47, s53] H : R))
noncomputable def r44_21 (k : KT R) : KT R := fun fr H => opn 20 fr (fun s0 s1 s4 s5 s6 s7 s8 s9 s10 s12 s15 s20 s26 s32 s36 s42 s45 s46 s47 s53 => 
(k [s0, s1, s9, s5, s6, s7, s8, s9, s10, s12, s15, s20, s26, s32, s36, s42, s45, s46, s47, s53] H : R))
noncomputable def r44_20 (C : CallF) (k : KT R) : KT R := fun fr H => opn 20 fr (fun s0 s1 s4 s5 s6 s7 s8 s9 s10 s12 s15 s20 s26 s32 s36 s42 s45 s46 s47 s53 => 
(qRes (C 56 [s1, s10] H) fun v52 H =>
qGeq X 3 v52 (.int .i64 0) fun v53 =>
k [s0, s1, s4, s5, s6, s7, s8, s9, s10, s12, s15, s20, s26, s32, s36, s42, s45, s46, s47, v53] H : R))
noncomputable def r44_19 (k : KT R) : KT R := fun fr H => opn 20 fr (fun s0 s1 s4 s5 s6 s7 s8 s9 s10 s12 s15 s20 s26 s32 s36 s42 s45 s46 s47 s53 => 
(qExt s46 1 fun v48 =>
qExt s46 2 fun v49 =>
k [s0, s1, s4, s5, s6, s7, s8, v48, v49, s12, s15, s20, s26, s32, s36, s42, s45, s46, s47, s53] H : R))
noncomputable def r44_18 (k : KT R) : KT R := fun fr H => opn 20 fr (fun s0 s1 s4 s5 s6 s7 s8 s9 s10 s12 s15 s20 s26 s32 s36 s42 s45 s46 s47 s53 => 
(qNext s45 H fun v46 H =>
qExt v46 0 fun v47 =>
k [s0, s1, s4, s5, s6, s7, s8, s9, s10, s12, s15, s20, s26, s32, s36, s42, s45, v46, v47, s53] H : R))
noncomputable def l44_5 (C : CallF) (k1 : KT R) (kr : KT R) : KT R → KT R := fun k2 => (r44_18 (qCd (sel 18) (fun k5 => k5) (fun _ => k1) (qBl (fun k3 => (r44_19 (r44_20 C (qCd (sel 19) (fun _ => (r44_21 kr)) (fun k4 => k4) k3)))) k2)))
noncomputable def r44_17 (k : KT R) : KT R := fun fr H => opn 20 fr (fun s0 s1 s4 s5 s6 s7 s8 s9 s10 s12 s15 s20 s26 s32 s36 s42 s45 s46 s47 s53 => 
(qRange s0 H fun v45 H =>
k [s0, s1, s4, s5, s6, s7, s8, s9, s10, s12, s15, s20, s26, s32, s36, s42, v45, s46, s47, s53] H : R))
noncomputable def r44_16 (k : KT R) : KT R := fun fr H => opn 20 fr (fun s0 s1 s4 s5 s6 s7 s8 s9 s10 s12 s15 s20 s26 s32 s36 s42 s45 s46 s47 s53 => 
(k [s0, s1, (.int .i64 (-1)), s5, s6, s7, s8, s9, s10, s12, s15, s20, s26, s32, s36, s42, s45, s46, s47, s53] H : R))
noncomputable def r44_13 (k : KT R) : KT R := fun fr H => opn 20 fr (fun s0 s1 s4 s5 s6 s7 s8 s9 s10 s12 s15 s20 s26 s32 s36 s42 s45 s46 s47 s53 => 
(qAdd X 3 s8 (.int .i64 1) fun v38 =>
k [s0, s1, s4, s5, s6, s7, v38, s9, s10, s12, s15, s20, s26, s32, s36, s42, s45, s46, s47, s53] H : R))
noncomputable def r44_15 (k : KT R) : KT R := fun fr H => opn 20 fr (fun s0 s1 s4 s5 s6 s7 s8 s9 s10 s12 s15 s20 s26 s32 s36 s42 s45 s46 s47 s53 => 
(k [s0, s1, s8, s5, s6, s7, s8, s9, s10, s12, s15, s20, s26, s32, s36, s42, s45, s46, s47, s53] H : R))
noncomputable def r44_14 (C : CallF) (k : KT R) : KT R := fun fr H => opn 20 fr (fun s0 s1 s4 s5 s6 s7 s8 s9 s10 s12 s15 s20 s26 s32 s36 s42 s45 s46 s47 s53 => 
(qIx s0 s8 fun v41 =>
qRes (C 58 [s6, v41] H) fun v42 H =>
k [s0, s1, s4, s5, s6, s7, s8, s9, s10, s12, s15, s20, s26, s32, s36, v42, s45, s46, s47, s53] H : R))
noncomputable def r44_12 (k : KT R) : KT R := fun fr H => opn 20 fr (fun s0 s1 s4 s5 s6 s7 s8 s9 s10 s12 s15 s20 s26 s32 s36 s42 s45 s46 s47 s53 => 
(qLenS s0 fun v35 =>
qLss X 3 s8 v35 fun v36 =>
k [s0, s1, s4, s5, s6, s7, s8, s9, s10, s12, s15, s20, s26, s32, v36, s42, s45, s46, s47, s53] H : R))
noncomputable def l44_12 (C : CallF) (k8 : KT R) (kr : KT R) : KT R → KT R := fun k9 => (r44_12 (qCd (sel 14) (fun k12 => k12) (fun _ => k8) (qBl (fun k10 => (r44_14 C (qCd (sel 15) (fun _ => (r44_15 kr)) (fun k11 => k11) k10))) (r44_13 k9))))
noncomputable def r44_11 (k : KT R) : KT R := fun fr H => opn 20 fr (fun s0 s1 s4 s5 s6 s7 s8 s9 s10 s12 s15 s20 s26 s32 s36 s42 s45 s46 s47 s53 => 
(k [s0, s1, s4, s5, s6, s7, (.int .i64 0), s9, s10, s12, s15, s20, s26, s32, s36, s42, s45, s46, s47, s53] H : R))
noncomputable def r44_10 (k : KT R) : KT R := fun fr H => opn 20 fr (fun s0 s1 s4 s5 s6 s7 s8 s9 s10 s12 s15 s20 s26 s32 s36 s42 s45 s46 s47 s53 => 
(k [s0, s1, s4, s5, s6, s7, s8, s9, s10, s12, s15, s20, s26, s7, s36, s42, s45, s46, s47, s53] H : R))
noncomputable def r44_9 (C : CallF) (k : KT R) : KT R := fun fr H => opn 20 fr (fun s0 s1 s4 s5 s6 s7 s8 s9 s10 s12 s15 s20 s26 s32 s36 s42 s45 s46 s47 s53 => 
(qRes (C 48 [s1] H) fun v29 H =>
qExt v29 0 fun v30 =>
qExt v29 1 fun v31 =>
qNew (.cells z75) .ptr H fun v6 H =>
qSt 256 v6 v30 H fun _ H =>
k [s0, s1, s4, s5, v6, v31, s8, s9, s10, s12, s15, s20, s26, s32, s36, s42, s45, s46, s47, s53] H : R))
noncomputable def r44_8 (C : CallF) (k : KT R) : KT R := fun fr H => opn 20 fr (fun s0 s1 s4 s5 s6 s7 s8 s9 s10 s12 s15 s20 s26 s32 s36 s42 s45 s46 s47 s53 => 
(qLenS s0 fun v25 =>
qRes (C 57 [v25] H) fun v26 H =>
k [s0, s1, s4, s5, s6, s7, s8, s9, s10, s12, s15, s20, v26, s32, s36, s42, s45, s46, s47, s53] H : R))
noncomputable def r44_7 (C : CallF) (k : KT R) : KT R := fun fr H => opn 20 fr (fun s0 s1 s4 s5 s6 s7 s8 s9 s10 s12 s15 s20 s26 s32 s36 s42 s45 s46 s47 s53 => 
(qRes (C 56 [s0, s5] H) fun v23 H =>
k [s0, s1, v23, s5, s6, s7, s8, s9, s10, s12, s15, s20, s26, s32, s36, s42, s45, s46, s47, s53] H : R))
noncomputable def r44_6 (k : KT R) : KT R := fun fr H => opn 20 fr (fun s0 s1 s4 s5 s6 s7 s8 s9 s10 s12 s15 s20 s26 s32 s36 s42 s45 s46 s47 s53 => 
(k [s0, s1, s4, (.int .i32 65533), s6, s7, s8, s9, s10, s12, s15, s20, s26, s32, s36, s42, s45, s46, s47, s53] H : R))
noncomputable def r44_5 (k : KT R) : KT R := fun fr H => opn 20 fr (fun s0 s1 s4 s5 s6 s7 s8 s9 s10 s12 s15 s20 s26 s32 s36 s42 s45 s46 s47 s53 => 
(qGeq X 21 s5 (.int .i32 128) fun v20 =>
k [s0, s1, s4, s5, s6, s7, s8, s9, s10, s12, s15, v20, s26, s32, s36, s42, s45, s46, s47, s53] H : R))
noncomputable def r44_4 (k : KT R) : KT R := fun fr H => opn 20 fr (fun s0 s1 s4 s5 s6 s7 s8 s9 s10 s12 s15 s20 s26 s32 s36 s42 s45 s46 s47 s53 => 
(qIx s1 (.int .i64 0) fun v17 =>
qConvI .i32 v17 fun v18 =>
k [s0, s1, s4, v18, s6, s7, s8, s9, s10, s12, s15, s20, s26, s32, s36, s42, s45, s46, s47, s53] H : R))
noncomputable def r44_3 (k : KT R) : KT R := fun fr H => opn 20 fr (fun s0 s1 s4 s5 s6 s7 s8 s9 s10 s12 s15 s20 s26 s32 s36 s42 s45 s46 s47 s53 => 
(qLenS s1 fun v14 =>
qEql X 3 v14 (.int .i64 1) fun v15 =>
k [s0, s1, s4, s5, s6, s7, s8, s9, s10, s12, v15, s20, s26, s32, s36, s42, s45, s46, s47, s53] H : R))
noncomputable def r44_2 (k : KT R) : KT R := fun fr H => opn 20 fr (fun s0 s1 s4 s5 s6 s7 s8 s9 s10 s12 s15 s20 s26 s32 s36 s42 s45 s46 s47 s53 => 
(k [s0, s1, (.int .i64 (-1)), s5, s6, s7, s8, s9, s10, s12, s15, s20, s26, s32, s36, s42, s45, s46, s47, s53] H : R))
noncomputable def r44_1 (k : KT R) : KT R := fun fr H => opn 20 fr (fun s0 s1 s4 s5 s6 s7 s8 s9 s10 s12 s15 s20 s26 s32 s36 s42 s45 s46 s47 s53 => 
(qEql X 9 s1 (.str []) fun v12 =>
k [s0, s1, s4, s5, s6, s7, s8, s9, s10, v12, s15, s20, s26, s32, s36, s42, s45, s46, s47, s53] H : R))
noncomputable def r44_0 (k : KT R) : KT R := fun fr H => opn 20 fr (fun s0 s1 s4 s5 s6 s7 s8 s9 s10 s12 s15 s20 s26 s32 s36 s42 s45 s46 s47 s53 => 
(k [s0, s1, (.int .i64 0), s5, s6, s7, s8, s9, s10, s12, s15, s20, s26, s32, s36, s42, s45, s46, s47, s53] H : R))
noncomputable def c44 (C : CallF) (l0 : List AV) (H : AH) (k : AV → AH → R) : R := opn 2 l0 (fun x0 x1 => (qFn (fun kr => (r44_0 (r44_1 (qCd (sel 9) (fun _ => (r44_2 kr)) (fun k15 => k15) (r44_3 (qCd (sel 10) (fun _ => (r44_4 (r44_5 (qCd (sel 11) (fun k14 => (r44_6 k14)) (fun k14 => k14) (r44_7 C kr))))) (fun k13 => k13) (r44_8 C (qCd (sel 12) (fun k6 => (r44_9 C (r44_10 (qCd (sel 13) (fun _ => (r44_11 (qBl (fun k8 => (qLoop (l44_12 C k8 kr))) (r44_16 kr)))) (fun k7 => k7) k6)))) (fun k6 => k6) (r44_17 (qBl (fun k1 => (qLoop (l44_5 C k1 kr))) (r44_22 kr)))))))))))
(fun fr H => k (sel 2 fr) H) [x0, x1, Aes.undef, Aes.undef, Aes.undef, Aes.undef, Aes.undef, Aes.undef, Aes.undef, Aes.undef, Aes.undef, Aes.undef, Aes.undef, Aes.undef, Aes.undef, Aes.undef, Aes.undef, Aes.undef, Aes.undef, Aes.undef] H : R))
/- (*strings.Builder).WriteRune -/
noncomputable def r45_4 (k : KT R) : KT R := fun fr H => opn 5 fr (fun s0 s1 s4 s5 s6 => 
(qNc s0 fun v24 =>
qFa 1 v24 fun v25 =>
qLd v25 H fun v26 =>
qLenL v26 fun v27 =>
qSub X 3 v27 s6 fun v29 =>
k [s0, s1, v29, (.nilif), s6] H : R))
noncomputable def r45_3 (C : CallF) (k : KT R) : KT R := fun fr H => opn 5 fr (fun s0 s1 s4 s5 s6 => 
(qNc s0 fun v16 =>
qFa 1 v16 fun v17 =>
qLd v17 H fun v18 =>
qRes (C 59 [v18, s1] H) fun v20 H =>
qNc s0 fun v21 =>
qFa 1 v21 fun v22 =>
qSt 1 v22 v20 H fun _ H =>
k [s0, s1, s4, s5, s6] H : R))
noncomputable def r45_2 (k : KT R) : KT R := fun fr H => opn 5 fr (fun s0 s1 s4 s5 s6 => 
(qNc s0 fun v10 =>
qFa 1 v10 fun v11 =>
qLd v11 H fun v12 =>
qLenL v12 fun v13 =>
k [s0, s1, s4, s5, v13] H : R))
noncomputable def r45_1 (C : CallF) (k : KT R) : KT R := fun fr H => opn 5 fr (fun s0 s1 s4 s5 s6 => 
(qRes (C 37 [s0] H) fun v8 H =>
k [s0, s1, s4, s5, s6] H : R))
noncomputable def r45_0 (k : KT R) : KT R := fun fr H => opn 5 fr (fun s0 s1 s4 s5 s6 => 
(k [s0, s1, (.int .i64 0), (.nilif), s6] H : R))
noncomputable def c45 (C : CallF) (l0 : List AV) (H : AH) (k : AV → AH → R) : R := opn 2 l0 (fun x0 x1 => (qFn (fun kr => (r45_0 (r45_1 C (r45_2 (r45_3 C (r45_4 kr))))))
(fun fr H => k (.tup [(sel 2 fr), (sel 3 fr)]) H) [x0, x1, Aes.undef, Aes.undef, Aes.undef] H : R))
/- refectory/runes.point -/
noncomputable def r46_9 (k : KT R) : KT R := fun fr H => opn 8 fr (fun s0 s2 s3 s4 s5 s13 s22 s31 => 
(qSub X 21 s4 (.int .i32 55296) fun v33 =>
qO (binop X .shl 21 v33 (.int .u64 10)) fun v34 =>
qSub X 21 s5 (.int .i32 56320) fun v36 =>
qAdd X 21 v34 v36 fun v37 =>
qAdd X 21 v37 (.int .i32 65536) fun v38 =>
k [s0, v38, (.int .i64 10), s4, s5, s13, s22, s31] H : R))
noncomputable def r46_8 (k : KT R) : KT R := fun fr H => opn 8 fr (fun s0 s2 s3 s4 s5 s13 s22 s31 => 
(k [s0, (.int .i32 (-1)), (.int .i64 0), s4, s5, s13, s22, s31] H : R))
noncomputable def r46_7 (k : KT R) : KT R := fun fr H => opn 8 fr (fun s0 s2 s3 s4 s5 s13 s22 s31 => 
(qLss X 21 s5 (.int .i32 56320) fun v27 =>
qG v27 false (fun k => k s5 H) H fun v29 H =>
qG v27 false (fun k => qGeq X 21 v29 (.int .i32 57344) fun v => k v H) H fun v30 H =>
qPick v27 (.bool true) v30 fun v31 =>
k [s0, s2, s3, s4, s5, s13, s22, v31] H : R))
noncomputable def r46_6 (C : CallF) (k : KT R) : KT R := fun fr H => opn 8 fr (fun s0 s2 s3 s4 s5 s13 s22 s31 => 
(qSlc Tryd.t9.desc 0 s0 (some (.int .i64 6)) none none fun v24 =>
qRes (C 60 [v24] H) fun v25 H =>
k [s0, s2, s3, s4, v25, s13, s22, s31] H : R))
noncomputable def r46_5 (k : KT R) : KT R := fun fr H => opn 8 fr (fun s0 s2 s3 s4 s5 s13 s22 s31 => 
(k [s0, (.int .i32 (-1)), (.int .i64 0), s4, s5, s13, s22, s31] H : R))
noncomputable def r46_4 (C : CallF) (k : KT R) : KT R := fun fr H => opn 8 fr (fun s0 s2 s3 s4 s5 s13 s22 s31 => 
(qGeq X 21 s4 (.int .i32 56320) fun v16 =>
qG v16 false (fun k => k s0 H) H fun v18 H =>
qG v16 false (fun k => qSlc Tryd.t9.desc 0 v18 (some (.int .i64 4)) none none fun v => k v H) H fun v19 H =>
qG v16 false (fun k => qRes (C 19 [v19, (.str [92,117])] H) k) H fun v20 H =>
qG v16 false (fun k => qNot v20 fun v => k v H) H fun v21 H =>
qPick v16 (.bool true) v21 fun v22 =>
k [s0, s2, s3, s4, s5, s13, v22, s31] H : R))
noncomputable def r46_3 (k : KT R) : KT R := fun fr H => opn 8 fr (fun s0 s2 s3 s4 s5 s13 s22 s31 => 
(k [s0, s4, (.int .i64 4), s4, s5, s13, s22, s31] H : R))
noncomputable def r46_2 (k : KT R) : KT R := fun fr H => opn 8 fr (fun s0 s2 s3 s4 s5 s13 s22 s31 => 
(qLss X 21 s4 (.int .i32 55296) fun v9 =>
qG v9 false (fun k => k s4 H) H fun v11 H =>
qG v9 false (fun k => qGeq X 21 v11 (.int .i32 57344) fun v => k v H) H fun v12 H =>
qPick v9 (.bool true) v12 fun v13 =>
k [s0, s2, s3, s4, s5, v13, s22, s31] H : R))
noncomputable def r46_1 (C : CallF) (k : KT R) : KT R := fun fr H => opn 8 fr (fun s0 s2 s3 s4 s5 s13 s22 s31 => 
(qRes (C 60 [s0] H) fun v7 H =>
k [s0, s2, s3, v7, s5, s13, s22, s31] H : R))
noncomputable def r46_0 (k : KT R) : KT R := fun fr H => opn 8 fr (fun s0 s2 s3 s4 s5 s13 s22 s31 => 
(k [s0, (.int .i32 0), (.int .i64 0), s4, s5, s13, s22, s31] H : R))
noncomputable def c46 (C : CallF) (l0 : List AV) (H : AH) (k : AV → AH → R) : R := opn 1 l0 (fun x0 => (qFn (fun kr => (r46_0 (r46_1 C (r46_2 (qCd (sel 5) (fun _ => (r46_3 kr)) (fun k3 => k3) (r46_4 C (qCd (sel 6) (fun _ => (r46_5 kr)) (fun k2 => k2) (r46_6 C (r46_7 (qCd (sel 7) (fun _ => (r46_8 kr)) (fun k1 => k1) (r46_9 kr)))))))))))
(fun fr H => k (.tup [(sel 1 fr), (sel 2 fr)]) H) [x0, Aes.undef, Aes.undef, Aes.undef, Aes.undef, Aes.undef, Aes.undef, Aes.undef] H : R))
/- strings.trimLeftByte -/
noncomputable def r47_3 (k : KT R) : KT R := fun fr H => opn 4 fr (fun s0 s1 s4 s13 => 
(k [s0, s1, s0, s13] H : R))
noncomputable def r47_2 (k : KT R) : KT R := fun fr H => opn 4 fr (fun s0 s1 s4 s13 => 
(qSlc Tryd.t9.desc 0 s0 (some (.int .i64 1)) none none fun v15 =>
k [v15, s1, s4, s13] H : R))
noncomputable def r47_1 (k : KT R) : KT R := fun fr H => opn 4 fr (fun s0 s1 s4 s13 => 
(qLenS s0 fun v6 =>
qGtr X 3 v6 (.int .i64 0) fun v7 =>
qG v7 true (fun k => k s0 H) H fun v9 H =>
qG v7 true (fun k => qIx v9 (.int .i64 0) fun v => k v H) H fun v10 H =>
qG v7 true (fun k => k s1 H) H fun v11 H =>
qG v7 true (fun k => qEql X 5 v10 v11 fun v => k v H) H fun v12 H =>
qPick v7 v12 (.bool false) fun v13 =>
k [s0, s1, s4, v13] H : R))
noncomputable def l47_4 (k1 : KT R) : KT R → KT R := fun k2 => (r47_1 (qCd (sel 3) (fun k4 => k4) (fun _ => k1) (qBl (fun k3 => (r47_2 k3)) k2)))
noncomputable def r47_0 (k : KT R) : KT R := fun fr H => opn 4 fr (fun s0 s1 s4 s13 => 
(k [s0, s1, (.str []), s13] H : R))
noncomputable def c47 (C : CallF) (l0 : List AV) (H : AH) (k : AV → AH → R) : R := opn 2 l0 (fun x0 x1 => (qFn (fun kr => (r47_0 (qBl (fun k1 => (qLoop (l47_4 k1))) (r47_3 kr))))
(fun fr H => k (sel 2 fr) H) [x0, x1, Aes.undef, Aes.undef] H : R))
/- strings.makeASCIISet -/
noncomputable def r48_8 (k : KT R) : KT R := fun fr H => opn 7 fr (fun s0 s2 s3 s4 s5 s9 s16 => 
(qLdA 256 s2 H fun v20 =>
qSt 256 s2 v20 H fun _ H =>
k [s0, s2, (.bool true), s4, s5, s9, s16] H : R))
noncomputable def r48_3 (k : KT R) : KT R := fun fr H => opn 7 fr (fun s0 s2 s3 s4 s5 s9 s16 => 
(qAdd X 3 s4 (.int .i64 1) fun v11 =>
k [s0, s2, s3, v11, s5, s9, s16] H : R))
noncomputable def r48_7 (k : KT R) : KT R := fun fr H => opn 7 fr (fun s0 s2 s3 s4 s5 s9 s16 => 
(qIaA 256 1 s2 s5 fun v19 =>
qSt 1 v19 (.bool true) H fun _ H =>
k [s0, s2, s3, s4, s5, s9, s16] H : R))
noncomputable def r48_6 (k : KT R) : KT R := fun fr H => opn 7 fr (fun s0 s2 s3 s4 s5 s9 s16 => 
(qLdA 256 s2 H fun v17 =>
qSt 256 s2 v17 H fun _ H =>
k [s0, s2, (.bool false), s4, s5, s9, s16] H : R))
noncomputable def r48_5 (k : KT R) : KT R := fun fr H => opn 7 fr (fun s0 s2 s3 s4 s5 s9 s16 => 
(qGeq X 5 s5 (.int .u8 128) fun v16 =>
k [s0, s2, s3, s4, s5, s9, v16] H : R))
noncomputable def r48_4 (k : KT R) : KT R := fun fr H => opn 7 fr (fun s0 s2 s3 s4 s5 s9 s16 => 
(qIx s0 s4 fun v14 =>
k [s0, s2, s3, s4, v14, s9, s16] H : R))
noncomputable def r48_2 (k : KT R) : KT R := fun fr H => opn 7 fr (fun s0 s2 s3 s4 s5 s9 s16 => 
(qLenS s0 fun v8 =>
qLss X 3 s4 v8 fun v9 =>
k [s0, s2, s3, s4, s5, v9, s16] H : R))
noncomputable def l48_5 (k1 : KT R) (kr : KT R) : KT R → KT R := fun k2 => (r48_2 (qCd (sel 5) (fun k5 => k5) (fun _ => k1) (qBl (fun k3 => (r48_4 (r48_5 (qCd (sel 6) (fun _ => (r48_6 kr)) (fun k4 => k4) (r48_7 k3))))) (r48_3 k2))))
noncomputable def r48_1 (k : KT R) : KT R := fun fr H => opn 7 fr (fun s0 s2 s3 s4 s5 s9 s16 => 
(k [s0, s2, s3, (.int .i64 0), s5, s9, s16] H : R))
noncomputable def r48_0 (k : KT R) : KT R := fun fr H => opn 7 fr (fun s0 s2 s3 s4 s5 s9 s16 => 
(qNew (.cells z75) .ptr H fun v2 H =>
k [s0, v2, (.bool false), s4, s5, s9, s16] H : R))
noncomputable def c48 (C : CallF) (l0 : List AV) (H : AH) (k : AV → AH → R) : R := opn 1 l0 (fun x0 => (qFn (fun kr => (r48_0 (r48_1 (qBl (fun k1 => (qLoop (l48_5 k1 kr))) (r48_8 kr)))))
(fun fr H => qPtr (sel 1 fr) (qLdA 256 (sel 1 fr) H fun w0 => k (.tup [w0, (sel 2 fr)]) H)) [x0, Aes.undef, Aes.undef, Aes.undef, Aes.undef, Aes.undef, Aes.undef] H : R))
/- strings.trimLeftASCII -/
noncomputable def r49_4 (k : KT R) : KT R := fun fr H => opn 5 fr (fun s0 s1 s4 s7 s12 => 
(k [s0, s1, s0, s7, s12] H : R))
noncomputable def r49_3 (k : KT R) : KT R := fun fr H => opn 5 fr (fun s0 s1 s4 s7 s12 => 
(qSlc Tryd.t9.desc 0 s0 (some (.int .i64 1)) none none fun v14 =>
k [v14, s1, s4, s7, s12] H : R))
noncomputable def r49_2 (C : CallF) (k : KT R) : KT R := fun fr H => opn 5 fr (fun s0 s1 s4 s7 s12 => 
(qIx s0 (.int .i64 0) fun v10 =>
qRes (C 58 [s1, v10] H) fun v11 H =>
qNot v11 fun v12 =>
k [s0, s1, s4, s7, v12] H : R))
noncomputable def r49_1 (k : KT R) : KT R := fun fr H => opn 5 fr (fun s0 s1 s4 s7 s12 => 
(qLenS s0 fun v6 =>
qGtr X 3 v6 (.int .i64 0) fun v7 =>
k [s0, s1, s4, v7, s12] H : R))
noncomputable def l49_5 (C : CallF) (k1 : KT R) : KT R → KT R := fun k2 => (r49_1 (qCd (sel 3) (fun k5 => k5) (fun _ => k1) (qBl (fun k3 => (r49_2 C (qCd (sel 4) (fun _ => k1) (fun k4 => k4) (r49_3 k3)))) k2)))
noncomputable def r49_0 (k : KT R) : KT R := fun fr H => opn 5 fr (fun s0 s1 s4 s7 s12 => 
(k [s0, s1, (.str []), s7, s12] H : R))
noncomputable def c49 (C : CallF) (l0 : List AV) (H : AH) (k : AV → AH → R) : R := opn 2 l0 (fun x0 x1 => (qFn (fun kr => (r49_0 (qBl (fun k1 => (qLoop (l49_5 C k1))) (r49_4 kr))))
(fun fr H => k (sel 2 fr) H) [x0, x1, Aes.undef, Aes.undef, Aes.undef] H : R))
/- strings.trimLeftUnicode -/
noncomputable def r50_5 (k : KT R) : KT R := fun fr H => opn 7 fr (fun s0 s1 s4 s5 s6 s9 s18 => 
(k [s0, s1, s0, s5, s6, s9, s18] H : R))
noncomputable def r50_4 (k : KT R) : KT R := fun fr H => opn 7 fr (fun s0 s1 s4 s5 s6 s9 s18 => 
(qSlc Tryd.t9.desc 0 s0 (some s6) none none fun v21 =>
k [v21, s1, s4, s5, s6, s9, s18] H : R))
noncomputable def r50_3 (C : CallF) (k : KT R) : KT R := fun fr H => opn 7 fr (fun s0 s1 s4 s5 s6 s9 s18 => 
(qRes (C 62 [s1, s5] H) fun v17 H =>
qNot v17 fun v18 =>
k [s0, s1, s4, s5, s6, s9, v18] H : R))
noncomputable def r50_2 (C : CallF) (k : KT R) : KT R := fun fr H => opn 7 fr (fun s0 s1 s4 s5 s6 s9 s18 => 
(qRes (C 61 [s0] H) fun v12 H =>
qExt v12 0 fun v13 =>
qExt v12 1 fun v14 =>
k [s0, s1, s4, v13, v14, s9, s18] H : R))
noncomputable def r50_1 (k : KT R) : KT R := fun fr H => opn 7 fr (fun s0 s1 s4 s5 s6 s9 s18 => 
(qLenS s0 fun v8 =>
qGtr X 3 v8 (.int .i64 0) fun v9 =>
k [s0, s1, s4, s5, s6, v9, s18] H : R))
noncomputable def l50_5 (C : CallF) (k1 : KT R) : KT R → KT R := fun k2 => (r50_1 (qCd (sel 5) (fun k5 => k5) (fun _ => k1) (qBl (fun k3 => (r50_2 C (r50_3 C (qCd (sel 6) (fun _ => k1) (fun k4 => k4) (r50_4 k3))))) k2)))
noncomputable def r50_0 (k : KT R) : KT R := fun fr H => opn 7 fr (fun s0 s1 s4 s5 s6 s9 s18 => 
(k [s0, s1, (.str []), s5, s6, s9, s18] H : R))
noncomputable def c50 (C : CallF) (l0 : List AV) (H : AH) (k : AV → AH → R) : R := opn 2 l0 (fun x0 x1 => (qFn (fun kr => (r50_0 (qBl (fun k1 => (qLoop (l50_5 C k1))) (r50_5 kr))))
(fun fr H => k (sel 2 fr) H) [x0, x1, Aes.undef, Aes.undef, Aes.undef, Aes.undef, Aes.undef] H : R))
/- strings.genSplit -/
noncomputable def r53_18 (k : KT R) : KT R := fun fr H => opn 13 fr (fun s0 s1 s2 s3 s8 s9 s10 s11 s13 s15 s20 s36 s41 => 
(qAdd X 3 s10 (.int .i64 1) fun v64 =>
qSlc Tryd.t65.desc 1 s9 none (some v64) none fun v65 =>
k [s0, s1, s2, s3, v65, s9, s10, s11, s13, s15, s20, s36, s41] H : R))
noncomputable def r53_17 (k : KT R) : KT R := fun fr H => opn 13 fr (fun s0 s1 s2 s3 s8 s9 s10 s11 s13 s15 s20 s36 s41 => 
(qIa 1 s9 s10 fun v61 =>
qSt 1 v61 s0 H fun _ H =>
k [s0, s1, s2, s3, s8, s9, s10, s11, s13, s15, s20, s36, s41] H : R))
noncomputable def r53_16 (k : KT R) : KT R := fun fr H => opn 13 fr (fun s0 s1 s2 s3 s8 s9 s10 s11 s13 s15 s20 s36 s41 => 
(qAdd X 3 s10 (.int .i64 1) fun v57 =>
k [s0, s1, s2, s3, s8, s9, v57, s11, s13, s15, s20, s36, s41] H : R))
noncomputable def r53_15 (k : KT R) : KT R := fun fr H => opn 13 fr (fun s0 s1 s2 s3 s8 s9 s10 s11 s13 s15 s20 s36 s41 => 
(qLenS s1 fun v53 =>
qAdd X 3 s11 v53 fun v54 =>
qSlc Tryd.t9.desc 0 s0 (some v54) none none fun v55 =>
k [v55, s1, s2, s3, s8, s9, s10, s11, s13, s15, s20, s36, s41] H : R))
noncomputable def r53_14 (k : KT R) : KT R := fun fr H => opn 13 fr (fun s0 s1 s2 s3 s8 s9 s10 s11 s13 s15 s20 s36 s41 => 
(qAdd X 3 s11 s2 fun v47 =>
qSlc Tryd.t9.desc 0 s0 none (some v47) none fun v48 =>
qIa 1 s9 s10 fun v49 =>
qSt 1 v49 v48 H fun _ H =>
k [s0, s1, s2, s3, s8, s9, s10, s11, s13, s15, s20, s36, s41] H : R))
noncomputable def r53_13 (k : KT R) : KT R := fun fr H => opn 13 fr (fun s0 s1 s2 s3 s8 s9 s10 s11 s13 s15 s20 s36 s41 => 
(qLss X 3 s11 (.int .i64 0) fun v41 =>
k [s0, s1, s2, s3, s8, s9, s10, s11, s13, s15, s20, s36, v41] H : R))
noncomputable def r53_12 (C : CallF) (k : KT R) : KT R := fun fr H => opn 13 fr (fun s0 s1 s2 s3 s8 s9 s10 s11 s13 s15 s20 s36 s41 => 
(qRes (C 66 [s0, s1] H) fun v39 H =>
k [s0, s1, s2, s3, s8, s9, s10, v39, s13, s15, s20, s36, s41] H : R))
noncomputable def r53_11 (k : KT R) : KT R := fun fr H => opn 13 fr (fun s0 s1 s2 s3 s8 s9 s10 s11 s13 s15 s20 s36 s41 => 
(qLss X 3 s10 s3 fun v36 =>
k [s0, s1, s2, s3, s8, s9, s10, s11, s13, s15, s20, v36, s41] H : R))
noncomputable def l53_5 (C : CallF) (k1 : KT R) : KT R → KT R := fun k2 => (r53_11 (qCd (sel 11) (fun k5 => k5) (fun _ => k1) (qBl (fun k3 => (r53_12 C (r53_13 (qCd (sel 12) (fun _ => k1) (fun k4 => k4) (r53_14 (r53_15 (r53_16 k3))))))) k2)))
noncomputable def r53_10 (k : KT R) : KT R := fun fr H => opn 13 fr (fun s0 s1 s2 s3 s8 s9 s10 s11 s13 s15 s20 s36 s41 => 
(k [s0, s1, s2, s3, s8, s9, (.int .i64 0), s11, s13, s15, s20, s36, s41] H : R))
noncomputable def r53_9 (k : KT R) : KT R := fun fr H => opn 13 fr (fun s0 s1 s2 s3 s8 s9 s10 s11 s13 s15 s20 s36 s41 => 
(qSub X 3 s3 (.int .i64 1) fun v33 =>
k [s0, s1, s2, v33, s8, s9, s10, s11, s13, s15, s20, s36, s41] H : R))
noncomputable def r53_8 (k : KT R) : KT R := fun fr H => opn 13 fr (fun s0 s1 s2 s3 s8 s9 s10 s11 s13 s15 s20 s36 s41 => 
(qMkS z9 1 16 s3 s3 H fun v31 H =>
k [s0, s1, s2, s3, s8, v31, s10, s11, s13, s15, s20, s36, s41] H : R))
noncomputable def r53_7 (k : KT R) : KT R := fun fr H => opn 13 fr (fun s0 s1 s2 s3 s8 s9 s10 s11 s13 s15 s20 s36 s41 => 
(qLenS s0 fun v27 =>
qAdd X 3 v27 (.int .i64 1) fun v28 =>
qO (foldO min2 s3 [v28]) fun v29 =>
k [s0, s1, s2, v29, s8, s9, s10, s11, s13, s15, s20, s36, s41] H : R))
noncomputable def r53_6 (C : CallF) (k : KT R) : KT R := fun fr H => opn 13 fr (fun s0 s1 s2 s3 s8 s9 s10 s11 s13 s15 s20 s36 s41 => 
(qRes (C 65 [s0, s1] H) fun v23 H =>
qAdd X 3 v23 (.int .i64 1) fun v24 =>
k [s0, s1, s2, v24, s8, s9, s10, s11, s13, s15, s20, s36, s41] H : R))
noncomputable def r53_5 (k : KT R) : KT R := fun fr H => opn 13 fr (fun s0 s1 s2 s3 s8 s9 s10 s11 s13 s15 s20 s36 s41 => 
(qLss X 3 s3 (.int .i64 0) fun v20 =>
k [s0, s1, s2, s3, s8, s9, s10, s11, s13, s15, v20, s36, s41] H : R))
noncomputable def r53_4 (C : CallF) (k : KT R) : KT R := fun fr H => opn 13 fr (fun s0 s1 s2 s3 s8 s9 s10 s11 s13 s15 s20 s36 s41 => 
(qRes (C 64 [s0, s3] H) fun v18 H =>
k [s0, s1, s2, s3, v18, s9, s10, s11, s13, s15, s20, s36, s41] H : R))
noncomputable def r53_3 (k : KT R) : KT R := fun fr H => opn 13 fr (fun s0 s1 s2 s3 s8 s9 s10 s11 s13 s15 s20 s36 s41 => 
(qEql X 9 s1 (.str []) fun v15 =>
k [s0, s1, s2, s3, s8, s9, s10, s11, s13, v15, s20, s36, s41] H : R))
noncomputable def r53_2 (k : KT R) : KT R := fun fr H => opn 13 fr (fun s0 s1 s2 s3 s8 s9 s10 s11 s13 s15 s20 s36 s41 => 
(k [s0, s1, s2, s3, (.sl [] .nil), s9, s10, s11, s13, s15, s20, s36, s41] H : R))
noncomputable def r53_1 (k : KT R) : KT R := fun fr H => opn 13 fr (fun s0 s1 s2 s3 s8 s9 s10 s11 s13 s15 s20 s36 s41 => 
(qEql X 3 s3 (.int .i64 0) fun v13 =>
k [s0, s1, s2, s3, s8, s9, s10, s11, v13, s15, s20, s36, s41] H : R))
noncomputable def r53_0 (k : KT R) : KT R := fun fr H => opn 13 fr (fun s0 s1 s2 s3 s8 s9 s10 s11 s13 s15 s20 s36 s41 => 
(k [s0, s1, s2, s3, (.sl [] .nil), s9, s10, s11, s13, s15, s20, s36, s41] H : R))
noncomputable def c53 (C : CallF) (l0 : List AV) (H : AH) (k : AV → AH → R) : R := opn 4 l0 (fun x0 x1 x2 x3 => (qFn (fun kr => (r53_0 (r53_1 (qCd (sel 8) (fun _ => (r53_2 kr)) (fun k8 => k8) (r53_3 (qCd (sel 9) (fun _ => (r53_4 C kr)) (fun k7 => k7) (r53_5 (qCd (sel 10) (fun k6 => (r53_6 C k6)) (fun k6 => k6) (r53_7 (r53_8 (r53_9 (r53_10 (qBl (fun k1 => (qLoop (l53_5 C k1))) (r53_17 (r53_18 kr)))))))))))))))
(fun fr H => k (sel 4 fr) H) [x0, x1, x2, x3, Aes.undef, Aes.undef, Aes.undef, Aes.undef, Aes.undef, Aes.undef, Aes.undef, Aes.undef, Aes.undef] H : R))
/- strings.Replace -/
noncomputable def r54_29 (C : CallF) (k : KT R) : KT R := fun fr H => opn 21 fr (fun s0 s1 s2 s3 s8 s9 s10 s11 s12 s14 s15 s22 s28 s36 s51 s52 s53 s54 s77 s78 s79 => 
(qRes (C 29 [s10] H) fun v103 H =>
k [s0, s1, s2, s3, v103, s9, s10, s11, s12, s14, s15, s22, s28, s36, s51, s52, s53, s54, s77, s78, s79] H : R))
noncomputable def r54_28 (C : CallF) (k : KT R) : KT R := fun fr H => opn 21 fr (fun s0 s1 s2 s3 s8 s9 s10 s11 s12 s14 s15 s22 s28 s36 s51 s52 s53 s54 s77 s78 s79 => 
(qSlc Tryd.t9.desc 0 s0 (some s11) none none fun v101 =>
qRes (C 27 [s10, v101] H) fun v102 H =>
k [s0, s1, s2, s3, s8, s9, s10, s11, s12, s14, s15, s22, s28, s36, s51, s52, s53, s54, s77, s78, s79] H : R))
noncomputable def r54_18 (k : KT R) : KT R := fun fr H => opn 21 fr (fun s0 s1 s2 s3 s8 s9 s10 s11 s12 s14 s15 s22 s28 s36 s51 s52 s53 s54 s77 s78 s79 => 
(qAdd X 3 s53 (.int .i64 1) fun v73 =>
k [s0, s1, s2, s3, s8, s9, s10, s11, s12, s14, s15, s22, s28, s36, s51, s52, v73, s54, s77, s78, s79] H : R))
noncomputable def r54_17 (k : KT R) : KT R := fun fr H => opn 21 fr (fun s0 s1 s2 s3 s8 s9 s10 s11 s12 s14 s15 s22 s28 s36 s51 s52 s53 s54 s77 s78 s79 => 
(qLenS s1 fun v71 =>
qAdd X 3 s12 v71 fun v72 =>
k [s0, s1, s2, s3, s8, s9, s10, v72, s12, s14, s15, s22, s28, s36, s51, s52, s53, s54, s77, s78, s79] H : R))
noncomputable def r54_16 (C : CallF) (k : KT R) : KT R := fun fr H => opn 21 fr (fun s0 s1 s2 s3 s8 s9 s10 s11 s12 s14 s15 s22 s28 s36 s51 s52 s53 s54 s77 s78 s79 => 
(qRes (C 27 [s10, s2] H) fun v68 H =>
k [s0, s1, s2, s3, s8, s9, s10, s11, s12, s14, s15, s22, s28, s36, s51, s52, s53, s54, s77, s78, s79] H : R))
noncomputable def r54_15 (C : CallF) (k : KT R) : KT R := fun fr H => opn 21 fr (fun s0 s1 s2 s3 s8 s9 s10 s11 s12 s14 s15 s22 s28 s36 s51 s52 s53 s54 s77 s78 s79 => 
(qSlc Tryd.t9.desc 0 s0 (some s11) (some s12) none fun v65 =>
qRes (C 27 [s10, v65] H) fun v66 H =>
k [s0, s1, s2, s3, s8, s9, s10, s11, s12, s14, s15, s22, s28, s36, s51, s52, s53, s54, s77, s78, s79] H : R))
noncomputable def r54_14 (C : CallF) (k : KT R) : KT R := fun fr H => opn 21 fr (fun s0 s1 s2 s3 s8 s9 s10 s11 s12 s14 s15 s22 s28 s36 s51 s52 s53 s54 s77 s78 s79 => 
(qSlc Tryd.t9.desc 0 s0 (some s11) none none fun v58 =>
qRes (C 66 [v58, s1] H) fun v60 H =>
qAdd X 3 s11 v60 fun v61 =>
k [s0, s1, s2, s3, s8, s9, s10, s11, v61, s14, s15, s22, s28, s36, s51, s52, s53, s54, s77, s78, s79] H : R))
noncomputable def r54_13 (k : KT R) : KT R := fun fr H => opn 21 fr (fun s0 s1 s2 s3 s8 s9 s10 s11 s12 s14 s15 s22 s28 s36 s51 s52 s53 s54 s77 s78 s79 => 
(qLss X 3 s53 s52 fun v54 =>
k [s0, s1, s2, s3, s8, s9, s10, s11, s12, s14, s15, s22, s28, s36, s51, s52, s53, v54, s77, s78, s79] H : R))
noncomputable def l54_5 (C : CallF) (k2 : KT R) : KT R → KT R := fun k3 => (r54_13 (qCd (sel 17) (fun k5 => k5) (fun _ => k2) (qBl (fun k4 => (r54_14 C (r54_15 C (r54_16 C (r54_17 k4))))) (r54_18 k3))))
noncomputable def r54_12 (k : KT R) : KT R := fun fr H => opn 21 fr (fun s0 s1 s2 s3 s8 s9 s10 s11 s12 s14 s15 s22 s28 s36 s51 s52 s53 s54 s77 s78 s79 => 
(k [s0, s1, s2, s3, s8, s9, s10, s11, s12, s14, s15, s22, s28, s36, s51, s3, (.int .i64 0), s54, s77, s78, s79] H : R))
noncomputable def r54_27 (k : KT R) : KT R := fun fr H => opn 21 fr (fun s0 s1 s2 s3 s8 s9 s10 s11 s12 s14 s15 s22 s28 s36 s51 s52 s53 s54 s77 s78 s79 => 
(qAdd X 3 s78 (.int .i64 1) fun v98 =>
k [s0, s1, s2, s3, s8, s9, s10, s11, s12, s14, s15, s22, s28, s36, s51, s52, s53, s54, s77, v98, s79] H : R))
noncomputable def r54_26 (k : KT R) : KT R := fun fr H => opn 21 fr (fun s0 s1 s2 s3 s8 s9 s10 s11 s12 s14 s15 s22 s28 s36 s51 s52 s53 s54 s77 s78 s79 => 
(k [s0, s1, s2, s3, s8, s9, s10, s15, s12, s14, s15, s22, s28, s36, s51, s52, s53, s54, s77, s78, s79] H : R))
noncomputable def r54_25 (C : CallF) (k : KT R) : KT R := fun fr H => opn 21 fr (fun s0 s1 s2 s3 s8 s9 s10 s11 s12 s14 s15 s22 s28 s36 s51 s52 s53 s54 s77 s78 s79 => 
(qRes (C 27 [s10, s2] H) fun v96 H =>
k [s0, s1, s2, s3, s8, s9, s10, s11, s12, s14, s15, s22, s28, s36, s51, s52, s53, s54, s77, s78, s79] H : R))
noncomputable def r54_24 (C : CallF) (k : KT R) : KT R := fun fr H => opn 21 fr (fun s0 s1 s2 s3 s8 s9 s10 s11 s12 s14 s15 s22 s28 s36 s51 s52 s53 s54 s77 s78 s79 => 
(qSlc Tryd.t9.desc 0 s0 (some s11) (some s15) none fun v93 =>
qRes (C 27 [s10, v93] H) fun v94 H =>
k [s0, s1, s2, s3, s8, s9, s10, s11, s12, s14, s15, s22, s28, s36, s51, s52, s53, s54, s77, s78, s79] H : R))
noncomputable def r54_23 (k : KT R) : KT R := fun fr H => opn 21 fr (fun s0 s1 s2 s3 s8 s9 s10 s11 s12 s14 s15 s22 s28 s36 s51 s52 s53 s54 s77 s78 s79 => 
(qAdd X 3 s11 s14 fun v89 =>
k [s0, s1, s2, s3, s8, s9, s10, s11, s12, s14, v89, s22, s28, s36, s51, s52, s53, s54, s77, s78, s79] H : R))
noncomputable def r54_22 (C : CallF) (k : KT R) : KT R := fun fr H => opn 21 fr (fun s0 s1 s2 s3 s8 s9 s10 s11 s12 s14 s15 s22 s28 s36 s51 s52 s53 s54 s77 s78 s79 => 
(qSlc Tryd.t9.desc 0 s0 (some s11) none none fun v83 =>
qRes (C 61 [v83] H) fun v84 H =>
qExt v84 0 fun v85 =>
qExt v84 1 fun v86 =>
k [s0, s1, s2, s3, s8, s9, s10, s11, s12, v86, s15, s22, s28, s36, s51, s52, s53, s54, s77, s78, s79] H : R))
noncomputable def r54_21 (k : KT R) : KT R := fun fr H => opn 21 fr (fun s0 s1 s2 s3 s8 s9 s10 s11 s12 s14 s15 s22 s28 s36 s51 s52 s53 s54 s77 s78 s79 => 
(qLss X 3 s78 s77 fun v79 =>
k [s0, s1, s2, s3, s8, s9, s10, s11, s12, s14, s15, s22, s28, s36, s51, s52, s53, s54, s77, s78, v79] H : R))
noncomputable def l54_9 (C : CallF) (k6 : KT R) : KT R → KT R := fun k7 => (r54_21 (qCd (sel 20) (fun k9 => k9) (fun _ => k6) (qBl (fun k8 => (r54_22 C (r54_23 (r54_24 C (r54_25 C (r54_26 k8)))))) (r54_27 k7))))
noncomputable def r54_20 (k : KT R) : KT R := fun fr H => opn 21 fr (fun s0 s1 s2 s3 s8 s9 s10 s11 s12 s14 s15 s22 s28 s36 s51 s52 s53 s54 s77 s78 s79 => 
(qSub X 3 s3 (.int .i64 1) fun v77 =>
k [s0, s1, s2, s3, s8, s9, s10, s11, s12, s14, s15, s22, s28, s36, s51, s52, s53, s54, v77, (.int .i64 0), s79] H : R))
noncomputable def r54_19 (C : CallF) (k : KT R) : KT R := fun fr H => opn 21 fr (fun s0 s1 s2 s3 s8 s9 s10 s11 s12 s14 s15 s22 s28 s36 s51 s52 s53 s54 s77 s78 s79 => 
(qRes (C 27 [s10, s2] H) fun v75 H =>
k [s0, s1, s2, s3, s8, s9, s10, s11, s12, s14, s15, s22, s28, s36, s51, s52, s53, s54, s77, s78, s79] H : R))
noncomputable def r54_11 (k : KT R) : KT R := fun fr H => opn 21 fr (fun s0 s1 s2 s3 s8 s9 s10 s11 s12 s14 s15 s22 s28 s36 s51 s52 s53 s54 s77 s78 s79 => 
(qLenS s1 fun v50 =>
qGtr X 3 v50 (.int .i64 0) fun v51 =>
k [s0, s1, s2, s3, s8, s9, s10, s11, s12, s14, s15, s22, s28, s36, v51, s52, s53, s54, s77, s78, s79] H : R))
noncomputable def r54_10 (k : KT R) : KT R := fun fr H => opn 21 fr (fun s0 s1 s2 s3 s8 s9 s10 s11 s12 s14 s15 s22 s28 s36 s51 s52 s53 s54 s77 s78 s79 => 
(k [s0, s1, s2, s3, s8, s9, s10, (.int .i64 0), s12, s14, s15, s22, s28, s36, s51, s52, s53, s54, s77, s78, s79] H : R))
noncomputable def r54_9 (C : CallF) (k : KT R) : KT R := fun fr H => opn 21 fr (fun s0 s1 s2 s3 s8 s9 s10 s11 s12 s14 s15 s22 s28 s36 s51 s52 s53 s54 s77 s78 s79 => 
(qLenS s0 fun v39 =>
qLenS s2 fun v42 =>
qLenS s1 fun v44 =>
qSub X 3 v42 v44 fun v45 =>
qMul X 3 s3 v45 fun v46 =>
qAdd X 3 v39 v46 fun v47 =>
qRes (C 55 [s10, v47] H) fun v48 H =>
k [s0, s1, s2, s3, s8, s9, s10, s11, s12, s14, s15, s22, s28, s36, s51, s52, s53, s54, s77, s78, s79] H : R))
noncomputable def r54_8 (k : KT R) : KT R := fun fr H => opn 21 fr (fun s0 s1 s2 s3 s8 s9 s10 s11 s12 s14 s15 s22 s28 s36 s51 s52 s53 s54 s77 s78 s79 => 
(qNew (.obj 54 0 z54) .ptr H fun v10 H =>
k [s0, s1, s2, s3, s8, s9, v10, s11, s12, s14, s15, s22, s28, s36, s51, s52, s53, s54, s77, s78, s79] H : R))
noncomputable def r54_5 (k : KT R) : KT R := fun fr H => opn 21 fr (fun s0 s1 s2 s3 s8 s9 s10 s11 s12 s14 s15 s22 s28 s36 s51 s52 s53 s54 s77 s78 s79 => 
(k [s0, s1, s2, s3, s0, s9, s10, s11, s12, s14, s15, s22, s28, s36, s51, s52, s53, s54, s77, s78, s79] H : R))
noncomputable def r54_7 (k : KT R) : KT R := fun fr H => opn 21 fr (fun s0 s1 s2 s3 s8 s9 s10 s11 s12 s14 s15 s22 s28 s36 s51 s52 s53 s54 s77 s78 s79 => 
(k [s0, s1, s2, s9, s8, s9, s10, s11, s12, s14, s15, s22, s28, s36, s51, s52, s53, s54, s77, s78, s79] H : R))
noncomputable def r54_6 (k : KT R) : KT R := fun fr H => opn 21 fr (fun s0 s1 s2 s3 s8 s9 s10 s11 s12 s14 s15 s22 s28 s36 s51 s52 s53 s54 s77 s78 s79 => 
(qLss X 3 s3 (.int .i64 0) fun v31 =>
qG v31 false (fun k => k s9 H) H fun v33 H =>
qG v31 false (fun k => k s3 H) H fun v34 H =>
qG v31 false (fun k => qLss X 3 v33 v34 fun v => k v H) H fun v35 H =>
qPick v31 (.bool true) v35 fun v36 =>
k [s0, s1, s2, s3, s8, s9, s10, s11, s12, s14, s15, s22, s28, v36, s51, s52, s53, s54, s77, s78, s79] H : R))
noncomputable def r54_4 (k : KT R) : KT R := fun fr H => opn 21 fr (fun s0 s1 s2 s3 s8 s9 s10 s11 s12 s14 s15 s22 s28 s36 s51 s52 s53 s54 s77 s78 s79 => 
(qEql X 3 s9 (.int .i64 0) fun v28 =>
k [s0, s1, s2, s3, s8, s9, s10, s11, s12, s14, s15, s22, v28, s36, s51, s52, s53, s54, s77, s78, s79] H : R))
noncomputable def r54_3 (C : CallF) (k : KT R) : KT R := fun fr H => opn 21 fr (fun s0 s1 s2 s3 s8 s9 s10 s11 s12 s14 s15 s22 s28 s36 s51 s52 s53 s54 s77 s78 s79 => 
(qRes (C 65 [s0, s1] H) fun v26 H =>
k [s0, s1, s2, s3, s8, v26, s10, s11, s12, s14, s15, s22, s28, s36, s51, s52, s53, s54, s77, s78, s79] H : R))
noncomputable def r54_2 (k : KT R) : KT R := fun fr H => opn 21 fr (fun s0 s1 s2 s3 s8 s9 s10 s11 s12 s14 s15 s22 s28 s36 s51 s52 s53 s54 s77 s78 s79 => 
(k [s0, s1, s2, s3, s0, s9, s10, s11, s12, s14, s15, s22, s28, s36, s51, s52, s53, s54, s77, s78, s79] H : R))
noncomputable def r54_1 (k : KT R) : KT R := fun fr H => opn 21 fr (fun s0 s1 s2 s3 s8 s9 s10 s11 s12 s14 s15 s22 s28 s36 s51 s52 s53 s54 s77 s78 s79 => 
(qEql X 9 s1 s2 fun v18 =>
qG v18 false (fun k => k s3 H) H fun v20 H =>
qG v18 false (fun k => qEql X 3 v20 (.int .i64 0) fun v => k v H) H fun v21 H =>
qPick v18 (.bool true) v21 fun v22 =>
k [s0, s1, s2, s3, s8, s9, s10, s11, s12, s14, s15, v22, s28, s36, s51, s52, s53, s54, s77, s78, s79] H : R))
noncomputable def r54_0 (k : KT R) : KT R := fun fr H => opn 21 fr (fun s0 s1 s2 s3 s8 s9 s10 s11 s12 s14 s15 s22 s28 s36 s51 s52 s53 s54 s77 s78 s79 => 
(k [s0, s1, s2, s3, (.str []), s9, s10, s11, s12, s14, s15, s22, s28, s36, s51, s52, s53, s54, s77, s78, s79] H : R))
noncomputable def c54 (C : CallF) (l0 : List AV) (H : AH) (k : AV → AH → R) : R := opn 4 l0 (fun x0 x1 x2 x3 => (qFn (fun kr => (r54_0 (r54_1 (qCd (sel 11) (fun _ => (r54_2 kr)) (fun k12 => k12) (r54_3 C (r54_4 (qCd (sel 12) (fun _ => (r54_5 kr)) (fun k10 => (r54_6 (qCd (sel 13) (fun k11 => (r54_7 k11)) (fun k11 => k11) k10))) (r54_8 (r54_9 C (r54_10 (r54_11 (qCd (sel 14) (fun k1 => (r54_12 (qBl (fun k2 => (qLoop (l54_5 C k2))) k1))) (fun k1 => (r54_19 C (r54_20 (qBl (fun k6 => (qLoop (l54_9 C k6))) k1)))) (r54_28 C (r54_29 C kr))))))))))))))
(fun fr H => k (sel 4 fr) H) [x0, x1, x2, x3, Aes.undef, Aes.undef, Aes.undef, Aes.undef, Aes.undef, Aes.undef, Aes.undef, Aes.undef, Aes.undef, Aes.undef, Aes.undef, Aes.undef, Aes.undef, Aes.undef, Aes.undef, Aes.undef, Aes.undef] H : R))
/- strings.IndexRune -/
noncomputable def r56_35 (C : CallF) (k : KT R) : KT R := fun fr H => opn 33 fr (fun s0 s1 s4 s5 s6 s7 s8 s9 s10 s11 s12 s13 s14 s15 s16 s26 s33 s43 s51 s64 s98 s108 s124 s139 s143 s156 s160 s171 s175 s176 s177 s181 s183 => 
(qConvI .u8 s1 fun v169 =>
qRes (C 10 [s0, v169] H) fun v170 H =>
k [s0, s1, v170, s5, s6, s7, s8, s9, s10, s11, s12, s13, s14, s15, s16, s26, s33, s43, s51, s64, s98, s108, s124, s139, s143, s156, s160, s171, s175, s176, s177, s181, s183] H : R))
noncomputable def r56_42 (k : KT R) : KT R := fun fr H => opn 33 fr (fun s0 s1 s4 s5 s6 s7 s8 s9 s10 s11 s12 s13 s14 s15 s16 s26 s33 s43 s51 s64 s98 s108 s124 s139 s143 s156 s160 s171 s175 s176 s177 s181 s183 => 
(k [s0, s1, (.int .i64 (-1)), s5, s6, s7, s8, s9, s10, s11, s12, s13, s14, s15, s16, s26, s33, s43, s51, s64, s98, s108, s124, s139, s143, s156, s160, s171, s175, s176, s177, s181, s183] H : R))
noncomputable def r56_41 (k : KT R) : KT R := fun fr H => opn 33 fr (fun s0 s1 s4 s5 s6 s7 s8 s9 s10 s11 s12 s13 s14 s15 s16 s26 s33 s43 s51 s64 s98 s108 s124 s139 s143 s156 s160 s171 s175 s176 s177 s181 s183 => 
(k [s0, s1, s5, s5, s6, s7, s8, s9, s10, s11, s12, s13, s14, s15, s16, s26, s33, s43, s51, s64, s98, s108, s124, s139, s143, s156, s160, s171, s175, s176, s177, s181, s183] H : R))
noncomputable def r56_40 (k : KT R) : KT R := fun fr H => opn 33 fr (fun s0 s1 s4 s5 s6 s7 s8 s9 s10 s11 s12 s13 s14 s15 s16 s26 s33 s43 s51 s64 s98 s108 s124 s139 s143 s156 s160 s171 s175 s176 s177 s181 s183 => 
(qEql X 21 s6 (.int .i32 65533) fun v181 =>
k [s0, s1, s4, s5, s6, s7, s8, s9, s10, s11, s12, s13, s14, s15, s16, s26, s33, s43, s51, s64, s98, s108, s124, s139, s143, s156, s160, s171, s175, s176, s177, v181, s183] H : R))
noncomputable def r56_39 (k : KT R) : KT R := fun fr H => opn 33 fr (fun s0 s1 s4 s5 s6 s7 s8 s9 s10 s11 s12 s13 s14 s15 s16 s26 s33 s43 s51 s64 s98 s108 s124 s139 s143 s156 s160 s171 s175 s176 s177 s181 s183 => 
(qExt s176 1 fun v178 =>
qExt s176 2 fun v179 =>
k [s0, s1, s4, v178, v179, s7, s8, s9, s10, s11, s12, s13, s14, s15, s16, s26, s33, s43, s51, s64, s98, s108, s124, s139, s143, s156, s160, s171, s175, s176, s177, s181, s183] H : R))
noncomputable def r56_38 (k : KT R) : KT R := fun fr H => opn 33 fr (fun s0 s1 s4 s5 s6 s7 s8 s9 s10 s11 s12 s13 s14 s15 s16 s26 s33 s43 s51 s64 s98 s108 s124 s139 s143 s156 s160 s171 s175 s176 s177 s181 s183 => 
(qNext s175 H fun v176 H =>
qExt v176 0 fun v177 =>
k [s0, s1, s4, s5, s6, s7, s8, s9, s10, s11, s12, s13, s14, s15, s16, s26, s33, s43, s51, s64, s98, s108, s124, s139, s143, s156, s160, s171, s175, v176, v177, s181, s183] H : R))
noncomputable def l56_8 (k4 : KT R) (kr : KT R) : KT R → KT R := fun k5 => (r56_38 (qCd (sel 30) (fun k8 => k8) (fun _ => k4) (qBl (fun k6 => (r56_39 (r56_40 (qCd (sel 31) (fun _ => (r56_41 kr)) (fun k7 => k7) k6)))) k5)))
noncomputable def r56_37 (k : KT R) : KT R := fun fr H => opn 33 fr (fun s0 s1 s4 s5 s6 s7 s8 s9 s10 s11 s12 s13 s14 s15 s16 s26 s33 s43 s51 s64 s98 s108 s124 s139 s143 s156 s160 s171 s175 s176 s177 s181 s183 => 
(qRange s0 H fun v175 H =>
k [s0, s1, s4, s5, s6, s7, s8, s9, s10, s11, s12, s13, s14, s15, s16, s26, s33, s43, s51, s64, s98, s108, s124, s139, s143, s156, s160, s171, v175, s176, s177, s181, s183] H : R))
noncomputable def r56_44 (k : KT R) : KT R := fun fr H => opn 33 fr (fun s0 s1 s4 s5 s6 s7 s8 s9 s10 s11 s12 s13 s14 s15 s16 s26 s33 s43 s51 s64 s98 s108 s124 s139 s143 s156 s160 s171 s175 s176 s177 s181 s183 => 
(k [s0, s1, (.int .i64 (-1)), s5, s6, s7, s8, s9, s10, s11, s12, s13, s14, s15, s16, s26, s33, s43, s51, s64, s98, s108, s124, s139, s143, s156, s160, s171, s175, s176, s177, s181, s183] H : R))
noncomputable def r56_33 (k : KT R) : KT R := fun fr H => opn 33 fr (fun s0 s1 s4 s5 s6 s7 s8 s9 s10 s11 s12 s13 s14 s15 s16 s26 s33 s43 s51 s64 s98 s108 s124 s139 s143 s156 s160 s171 s175 s176 s177 s181 s183 => 
(k [s0, s1, (.int .i64 (-1)), s5, s6, s7, s8, s9, s10, s11, s12, s13, s14, s15, s16, s26, s33, s43, s51, s64, s98, s108, s124, s139, s143, s156, s160, s171, s175, s176, s177, s181, s183] H : R))
noncomputable def r56_22 (k : KT R) : KT R := fun fr H => opn 33 fr (fun s0 s1 s4 s5 s6 s7 s8 s9 s10 s11 s12 s13 s14 s15 s16 s26 s33 s43 s51 s64 s98 s108 s124 s139 s143 s156 s160 s171 s175 s176 s177 s181 s183 => 
(qAdd X 3 s9 s13 fun v111 =>
qSub X 3 v111 s8 fun v113 =>
k [s0, s1, v113, s5, s6, s7, s8, s9, s10, s11, s12, s13, s14, s15, s16, s26, s33, s43, s51, s64, s98, s108, s124, s139, s143, s156, s160, s171, s175, s176, s177, s181, s183] H : R))
noncomputable def r56_21 (k : KT R) : KT R := fun fr H => opn 33 fr (fun s0 s1 s4 s5 s6 s7 s8 s9 s10 s11 s12 s13 s14 s15 s16 s26 s33 s43 s51 s64 s98 s108 s124 s139 s143 s156 s160 s171 s175 s176 s177 s181 s183 => 
(qGeq X 3 s13 (.int .i64 0) fun v108 =>
k [s0, s1, s4, s5, s6, s7, s8, s9, s10, s11, s12, s13, s14, s15, s16, s26, s33, s43, s51, s64, s98, v108, s124, s139, s143, s156, s160, s171, s175, s176, s177, s181, s183] H : R))
noncomputable def r56_20 (C : CallF) (k : KT R) : KT R := fun fr H => opn 33 fr (fun s0 s1 s4 s5 s6 s7 s8 s9 s10 s11 s12 s13 s14 s15 s16 s26 s33 s43 s51 s64 s98 s108 s124 s139 s143 s156 s160 s171 s175 s176 s177 s181 s183 => 
(qSub X 3 s9 s8 fun v102 =>
qSlc Tryd.t9.desc 0 s0 (some v102) none none fun v103 =>
qO (conv X 21 9 s1) fun v105 =>
qRes (C 70 [v103, v105] H) fun v106 H =>
k [s0, s1, s4, s5, s6, s7, s8, s9, s10, s11, s12, v106, s14, s15, s16, s26, s33, s43, s51, s64, s98, s108, s124, s139, s143, s156, s160, s171, s175, s176, s177, s181, s183] H : R))
noncomputable def r56_26 (k : KT R) : KT R := fun fr H => opn 33 fr (fun s0 s1 s4 s5 s6 s7 s8 s9 s10 s11 s12 s13 s14 s15 s16 s26 s33 s43 s51 s64 s98 s108 s124 s139 s143 s156 s160 s171 s175 s176 s177 s181 s183 => 
(qAdd X 3 s9 (.int .i64 1) fun v126 =>
k [s0, s1, s4, s5, s6, s7, s8, v126, s10, s11, s12, s13, s14, s15, s16, s26, s33, s43, s51, s64, s98, s108, s124, s139, s143, s156, s160, s171, s175, s176, s177, s181, s183] H : R))
noncomputable def r56_32 (k : KT R) : KT R := fun fr H => opn 33 fr (fun s0 s1 s4 s5 s6 s7 s8 s9 s10 s11 s12 s13 s14 s15 s16 s26 s33 s43 s51 s64 s98 s108 s124 s139 s143 s156 s160 s171 s175 s176 s177 s181 s183 => 
(qSub X 3 s9 s8 fun v159 =>
k [s0, s1, v159, s5, s6, s7, s8, s9, s10, s11, s12, s13, s14, s15, s16, s26, s33, s43, s51, s64, s98, s108, s124, s139, s143, s156, s160, s171, s175, s176, s177, s181, s183] H : R))
noncomputable def r56_30 (k : KT R) : KT R := fun fr H => opn 33 fr (fun s0 s1 s4 s5 s6 s7 s8 s9 s10 s11 s12 s13 s14 s15 s16 s26 s33 s43 s51 s64 s98 s108 s124 s139 s143 s156 s160 s171 s175 s176 s177 s181 s183 => 
(qAdd X 3 s16 (.int .i64 1) fun v145 =>
k [s0, s1, s4, s5, s6, s7, s8, s9, s10, s11, s12, s13, s14, s15, v145, s26, s33, s43, s51, s64, s98, s108, s124, s139, s143, s156, s160, s171, s175, s176, s177, s181, s183] H : R))
noncomputable def r56_31 (k : KT R) : KT R := fun fr H => opn 33 fr (fun s0 s1 s4 s5 s6 s7 s8 s9 s10 s11 s12 s13 s14 s15 s16 s26 s33 s43 s51 s64 s98 s108 s124 s139 s143 s156 s160 s171 s175 s176 s177 s181 s183 => 
(qSub X 3 s9 s16 fun v149 =>
qIx s0 v149 fun v150 =>
qSub X 3 s8 s16 fun v154 =>
qIx s7 v154 fun v155 =>
qNeq X 5 v150 v155 fun v156 =>
k [s0, s1, s4, s5, s6, s7, s8, s9, s10, s11, s12, s13, s14, s15, s16, s26, s33, s43, s51, s64, s98, s108, s124, s139, s143, v156, s160, s171, s175, s176, s177, s181, s183] H : R))
noncomputable def r56_29 (k : KT R) : KT R := fun fr H => opn 33 fr (fun s0 s1 s4 s5 s6 s7 s8 s9 s10 s11 s12 s13 s14 s15 s16 s26 s33 s43 s51 s64 s98 s108 s124 s139 s143 s156 s160 s171 s175 s176 s177 s181 s183 => 
(qLenS s7 fun v142 =>
qLss X 3 s16 v142 fun v143 =>
k [s0, s1, s4, s5, s6, s7, s8, s9, s10, s11, s12, s13, s14, s15, s16, s26, s33, s43, s51, s64, s98, s108, s124, s139, v143, s156, s160, s171, s175, s176, s177, s181, s183] H : R))
noncomputable def l56_20 (k14 : KT R) (k16 : KT R) : KT R → KT R := fun k17 => (r56_29 (qCd (sel 24) (fun k20 => k20) (fun _ => k16) (qBl (fun k18 => (r56_31 (qCd (sel 25) (fun _ => k14) (fun k19 => k19) k18))) (r56_30 k17))))
noncomputable def r56_28 (k : KT R) : KT R := fun fr H => opn 33 fr (fun s0 s1 s4 s5 s6 s7 s8 s9 s10 s11 s12 s13 s14 s15 s16 s26 s33 s43 s51 s64 s98 s108 s124 s139 s143 s156 s160 s171 s175 s176 s177 s181 s183 => 
(k [s0, s1, s4, s5, s6, s7, s8, s9, s10, s11, s12, s13, s14, s15, (.int .i64 2), s26, s33, s43, s51, s64, s98, s108, s124, s139, s143, s156, s160, s171, s175, s176, s177, s181, s183] H : R))
noncomputable def r56_27 (k : KT R) : KT R := fun fr H => opn 33 fr (fun s0 s1 s4 s5 s6 s7 s8 s9 s10 s11 s12 s13 s14 s15 s16 s26 s33 s43 s51 s64 s98 s108 s124 s139 s143 s156 s160 s171 s175 s176 s177 s181 s183 => 
(qIx s0 s9 fun v129 =>
qEql X 5 v129 s14 fun v131 =>
qG v131 true (fun k => k s0 H) H fun v133 H =>
qG v131 true (fun k => k s9 H) H fun v134 H =>
qG v131 true (fun k => qSub X 3 v134 (.int .i64 1) fun v => k v H) H fun v135 H =>
qG v131 true (fun k => qIx v133 v135 fun v => k v H) H fun v136 H =>
qG v131 true (fun k => k s15 H) H fun v137 H =>
qG v131 true (fun k => qEql X 5 v136 v137 fun v => k v H) H fun v138 H =>
qPick v131 v138 (.bool false) fun v139 =>
k [s0, s1, s4, s5, s6, s7, s8, s9, s10, s11, s12, s13, s14, s15, s16, s26, s33, s43, s51, s64, s98, s108, s124, v139, s143, s156, s160, s171, s175, s176, s177, s181, s183] H : R))
noncomputable def r56_25 (k : KT R) : KT R := fun fr H => opn 33 fr (fun s0 s1 s4 s5 s6 s7 s8 s9 s10 s11 s12 s13 s14 s15 s16 s26 s33 s43 s51 s64 s98 s108 s124 s139 s143 s156 s160 s171 s175 s176 s177 s181 s183 => 
(qLenS s0 fun v123 =>
qLss X 3 s9 v123 fun v124 =>
k [s0, s1, s4, s5, s6, s7, s8, s9, s10, s11, s12, s13, s14, s15, s16, s26, s33, s43, s51, s64, s98, s108, v124, s139, s143, s156, s160, s171, s175, s176, s177, s181, s183] H : R))
noncomputable def l56_21 (k12 : KT R) (kr : KT R) : KT R → KT R := fun k13 => (r56_25 (qCd (sel 22) (fun k21 => k21) (fun _ => k12) (qBl (fun k14 => (r56_27 (qCd (sel 23) (fun _ => (r56_28 (qBl (fun k16 => (qLoop (l56_20 k14 k16))) (r56_32 kr)))) (fun k15 => k15) k14))) (r56_26 k13))))
noncomputable def r56_24 (k : KT R) : KT R := fun fr H => opn 33 fr (fun s0 s1 s4 s5 s6 s7 s8 s9 s10 s11 s12 s13 s14 s15 s16 s26 s33 s43 s51 s64 s98 s108 s124 s139 s143 s156 s160 s171 s175 s176 s177 s181 s183 => 
(qSub X 3 s8 (.int .i64 1) fun v119 =>
qIx s7 v119 fun v120 =>
k [s0, s1, s4, s5, s6, s7, s8, s9, s10, s11, s12, s13, s14, v120, s16, s26, s33, s43, s51, s64, s98, s108, s124, s139, s143, s156, s160, s171, s175, s176, s177, s181, s183] H : R))
noncomputable def r56_23 (k : KT R) : KT R := fun fr H => opn 33 fr (fun s0 s1 s4 s5 s6 s7 s8 s9 s10 s11 s12 s13 s14 s15 s16 s26 s33 s43 s51 s64 s98 s108 s124 s139 s143 s156 s160 s171 s175 s176 s177 s181 s183 => 
(qIx s7 s8 fun v116 =>
k [s0, s1, s4, s5, s6, s7, s8, s9, s10, s11, s12, s13, v116, s15, s16, s26, s33, s43, s51, s64, s98, s108, s124, s139, s143, s156, s160, s171, s175, s176, s177, s181, s183] H : R))
noncomputable def r56_19 (k : KT R) : KT R := fun fr H => opn 33 fr (fun s0 s1 s4 s5 s6 s7 s8 s9 s10 s11 s12 s13 s14 s15 s16 s26 s33 s43 s51 s64 s98 s108 s124 s139 s143 s156 s160 s171 s175 s176 s177 s181 s183 => 
(k [s0, s1, (.int .i64 (-1)), s5, s6, s7, s8, s9, s10, s11, s12, s13, s14, s15, s16, s26, s33, s43, s51, s64, s98, s108, s124, s139, s143, s156, s160, s171, s175, s176, s177, s181, s183] H : R))
noncomputable def r56_18 (C : CallF) (k : KT R) : KT R := fun fr H => opn 33 fr (fun s0 s1 s4 s5 s6 s7 s8 s9 s10 s11 s12 s13 s14 s15 s16 s26 s33 s43 s51 s64 s98 s108 s124 s139 s143 s156 s160 s171 s175 s176 s177 s181 s183 => 
(qG (.bool true) true (fun k => k s10 H) H fun v73 H =>
qG (.bool true) true (fun k => k s9 H) H fun v74 H =>
qG (.bool true) true (fun k => qRes (C 69 [v74] H) k) H fun v75 H =>
qG (.bool true) true (fun k => qGtr X 3 v73 v75 fun v => k v H) H fun v76 H =>
qPick (.bool true) v76 (.bool false) fun v77 =>
qG v77 true (fun k => k s9 H) H fun v79 H =>
qG v77 true (fun k => k s0 H) H fun v80 H =>
qG v77 true (fun k => qLenS v80 fun v => k v H) H fun v81 H =>
qG v77 true (fun k => qLss X 3 v79 v81 fun v => k v H) H fun v82 H =>
qPick v77 v82 (.bool false) fun v83 =>
qG v83 false (fun k => k (.bool false) H) H fun v85 H =>
qG v85 true (fun k => k s10 H) H fun v86 H =>
qG v85 true (fun k => k s9 H) H fun v87 H =>
qG v85 true (fun k => qO (binop X .shr 3 v87 (.int .u64 4)) fun v => k v H) H fun v88 H =>
qG v85 true (fun k => qAdd X 3 (.int .i64 4) v88 fun v => k v H) H fun v89 H =>
qG v85 true (fun k => qGeq X 3 v86 v89 fun v => k v H) H fun v90 H =>
qG v83 false (fun k => qPick v85 v90 (.bool false) fun v => k v H) H fun v91 H =>
qG v83 false (fun k => k v91 H) H fun v92 H =>
qG v92 true (fun k => k s9 H) H fun v93 H =>
qG v92 true (fun k => k s0 H) H fun v94 H =>
qG v92 true (fun k => qLenS v94 fun v => k v H) H fun v95 H =>
qG v92 true (fun k => qLss X 3 v93 v95 fun v => k v H) H fun v96 H =>
qG v83 false (fun k => qPick v92 v96 (.bool false) fun v => k v H) H fun v97 H =>
qPick v83 (.bool true) v97 fun v98 =>
k [s0, s1, s4, s5, s6, s7, s8, s9, s10, s11, s12, s13, s14, s15, s16, s26, s33, s43, s51, s64, v98, s108, s124, s139, s143, s156, s160, s171, s175, s176, s177, s181, s183] H : R))
noncomputable def r56_17 (k : KT R) : KT R := fun fr H => opn 33 fr (fun s0 s1 s4 s5 s6 s7 s8 s9 s10 s11 s12 s13 s14 s15 s16 s26 s33 s43 s51 s64 s98 s108 s124 s139 s143 s156 s160 s171 s175 s176 s177 s181 s183 => 
(qAdd X 3 s9 (.int .i64 1) fun v71 =>
k [s0, s1, s4, s5, s6, s7, s8, v71, s10, s11, s12, s13, s14, s15, s16, s26, s33, s43, s51, s64, s98, s108, s124, s139, s143, s156, s160, s171, s175, s176, s177, s181, s183] H : R))
noncomputable def r56_16 (k : KT R) : KT R := fun fr H => opn 33 fr (fun s0 s1 s4 s5 s6 s7 s8 s9 s10 s11 s12 s13 s14 s15 s16 s26 s33 s43 s51 s64 s98 s108 s124 s139 s143 s156 s160 s171 s175 s176 s177 s181 s183 => 
(qAdd X 3 s10 (.int .i64 1) fun v69 =>
k [s0, s1, s4, s5, s6, s7, s8, s9, v69, s11, s12, s13, s14, s15, s16, s26, s33, s43, s51, s64, s98, s108, s124, s139, s143, s156, s160, s171, s175, s176, s177, s181, s183] H : R))
noncomputable def r56_15 (k : KT R) : KT R := fun fr H => opn 33 fr (fun s0 s1 s4 s5 s6 s7 s8 s9 s10 s11 s12 s13 s14 s15 s16 s26 s33 s43 s51 s64 s98 s108 s124 s139 s143 s156 s160 s171 s175 s176 s177 s181 s183 => 
(qSub X 3 s9 s8 fun v67 =>
k [s0, s1, v67, s5, s6, s7, s8, s9, s10, s11, s12, s13, s14, s15, s16, s26, s33, s43, s51, s64, s98, s108, s124, s139, s143, s156, s160, s171, s175, s176, s177, s181, s183] H : R))
noncomputable def r56_13 (k : KT R) : KT R := fun fr H => opn 33 fr (fun s0 s1 s4 s5 s6 s7 s8 s9 s10 s11 s12 s13 s14 s15 s16 s26 s33 s43 s51 s64 s98 s108 s124 s139 s143 s156 s160 s171 s175 s176 s177 s181 s183 => 
(qAdd X 3 s12 (.int .i64 1) fun v53 =>
k [s0, s1, s4, s5, s6, s7, s8, s9, s10, s11, v53, s13, s14, s15, s16, s26, s33, s43, s51, s64, s98, s108, s124, s139, s143, s156, s160, s171, s175, s176, s177, s181, s183] H : R))
noncomputable def r56_14 (k : KT R) : KT R := fun fr H => opn 33 fr (fun s0 s1 s4 s5 s6 s7 s8 s9 s10 s11 s12 s13 s14 s15 s16 s26 s33 s43 s51 s64 s98 s108 s124 s139 s143 s156 s160 s171 s175 s176 s177 s181 s183 => 
(qSub X 3 s9 s12 fun v57 =>
qIx s0 v57 fun v58 =>
qSub X 3 s8 s12 fun v62 =>
qIx s7 v62 fun v63 =>
qNeq X 5 v58 v63 fun v64 =>
k [s0, s1, s4, s5, s6, s7, s8, s9, s10, s11, s12, s13, s14, s15, s16, s26, s33, s43, s51, v64, s98, s108, s124, s139, s143, s156, s160, s171, s175, s176, s177, s181, s183] H : R))
noncomputable def r56_12 (k : KT R) : KT R := fun fr H => opn 33 fr (fun s0 s1 s4 s5 s6 s7 s8 s9 s10 s11 s12 s13 s14 s15 s16 s26 s33 s43 s51 s64 s98 s108 s124 s139 s143 s156 s160 s171 s175 s176 s177 s181 s183 => 
(qLenS s7 fun v50 =>
qLss X 3 s12 v50 fun v51 =>
k [s0, s1, s4, s5, s6, s7, s8, s9, s10, s11, s12, s13, s14, s15, s16, s26, s33, s43, v51, s64, s98, s108, s124, s139, s143, s156, s160, s171, s175, s176, s177, s181, s183] H : R))
noncomputable def l56_30 (k26 : KT R) : KT R → KT R := fun k27 => (r56_12 (qCd (sel 18) (fun k30 => k30) (fun _ => k26) (qBl (fun k28 => (r56_14 (qCd (sel 19) (fun _ => (fun _ _ => fail)) (fun k29 => k29) k28))) (r56_13 k27))))
noncomputable def r56_11 (k : KT R) : KT R := fun fr H => opn 33 fr (fun s0 s1 s4 s5 s6 s7 s8 s9 s10 s11 s12 s13 s14 s15 s16 s26 s33 s43 s51 s64 s98 s108 s124 s139 s143 s156 s160 s171 s175 s176 s177 s181 s183 => 
(k [s0, s1, s4, s5, s6, s7, s8, s9, s10, s11, (.int .i64 1), s13, s14, s15, s16, s26, s33, s43, s51, s64, s98, s108, s124, s139, s143, s156, s160, s171, s175, s176, s177, s181, s183] H : R))
noncomputable def r56_10 (k : KT R) : KT R := fun fr H => opn 33 fr (fun s0 s1 s4 s5 s6 s7 s8 s9 s10 s11 s12 s13 s14 s15 s16 s26 s33 s43 s51 s64 s98 s108 s124 s139 s143 s156 s160 s171 s175 s176 s177 s181 s183 => 
(qAdd X 3 s11 (.int .i64 1) fun v46 =>
qAdd X 3 s9 v46 fun v47 =>
k [s0, s1, s4, s5, s6, s7, s8, v47, s10, s11, s12, s13, s14, s15, s16, s26, s33, s43, s51, s64, s98, s108, s124, s139, s143, s156, s160, s171, s175, s176, s177, s181, s183] H : R))
noncomputable def r56_9 (k : KT R) : KT R := fun fr H => opn 33 fr (fun s0 s1 s4 s5 s6 s7 s8 s9 s10 s11 s12 s13 s14 s15 s16 s26 s33 s43 s51 s64 s98 s108 s124 s139 s143 s156 s160 s171 s175 s176 s177 s181 s183 => 
(k [s0, s1, (.int .i64 (-1)), s5, s6, s7, s8, s9, s10, s11, s12, s13, s14, s15, s16, s26, s33, s43, s51, s64, s98, s108, s124, s139, s143, s156, s160, s171, s175, s176, s177, s181, s183] H : R))
noncomputable def r56_8 (k : KT R) : KT R := fun fr H => opn 33 fr (fun s0 s1 s4 s5 s6 s7 s8 s9 s10 s11 s12 s13 s14 s15 s16 s26 s33 s43 s51 s64 s98 s108 s124 s139 s143 s156 s160 s171 s175 s176 s177 s181 s183 => 
(qLss X 3 s11 (.int .i64 0) fun v43 =>
k [s0, s1, s4, s5, s6, s7, s8, s9, s10, s11, s12, s13, s14, s15, s16, s26, s33, v43, s51, s64, s98, s108, s124, s139, s143, s156, s160, s171, s175, s176, s177, s181, s183] H : R))
noncomputable def r56_7 (C : CallF) (k : KT R) : KT R := fun fr H => opn 33 fr (fun s0 s1 s4 s5 s6 s7 s8 s9 s10 s11 s12 s13 s14 s15 s16 s26 s33 s43 s51 s64 s98 s108 s124 s139 s143 s156 s160 s171 s175 s176 s177 s181 s183 => 
(qAdd X 3 s9 (.int .i64 1) fun v36 =>
qSlc Tryd.t9.desc 0 s0 (some v36) none none fun v37 =>
qIx s7 s8 fun v40 =>
qRes (C 10 [v37, v40] H) fun v41 H =>
k [s0, s1, s4, s5, s6, s7, s8, s9, s10, v41, s12, s13, s14, s15, s16, s26, s33, s43, s51, s64, s98, s108, s124, s139, s143, s156, s160, s171, s175, s176, s177, s181, s183] H : R))
noncomputable def r56_6 (k : KT R) : KT R := fun fr H => opn 33 fr (fun s0 s1 s4 s5 s6 s7 s8 s9 s10 s11 s12 s13 s14 s15 s16 s26 s33 s43 s51 s64 s98 s108 s124 s139 s143 s156 s160 s171 s175 s176 s177 s181 s183 => 
(qIx s0 s9 fun v29 =>
qIx s7 s8 fun v32 =>
qNeq X 5 v29 v32 fun v33 =>
k [s0, s1, s4, s5, s6, s7, s8, s9, s10, s11, s12, s13, s14, s15, s16, s26, v33, s43, s51, s64, s98, s108, s124, s139, s143, s156, s160, s171, s175, s176, s177, s181, s183] H : R))
noncomputable def r56_5 (k : KT R) : KT R := fun fr H => opn 33 fr (fun s0 s1 s4 s5 s6 s7 s8 s9 s10 s11 s12 s13 s14 s15 s16 s26 s33 s43 s51 s64 s98 s108 s124 s139 s143 s156 s160 s171 s175 s176 s177 s181 s183 => 
(qLenS s0 fun v25 =>
qLss X 3 s9 v25 fun v26 =>
k [s0, s1, s4, s5, s6, s7, s8, s9, s10, s11, s12, s13, s14, s15, s16, v26, s33, s43, s51, s64, s98, s108, s124, s139, s143, s156, s160, s171, s175, s176, s177, s181, s183] H : R))
noncomputable def l56_33 (C : CallF) (k22 : KT R) (kr : KT R) : KT R → KT R := fun k23 => (r56_5 (qCd (sel 15) (fun k33 => k33) (fun _ => k22) (qBl (fun k24 => (r56_6 (qCd (sel 16) (fun k31 => (r56_7 C (r56_8 (qCd (sel 17) (fun _ => (r56_9 kr)) (fun k32 => k32) (r56_10 k31))))) (fun k31 => k31) (r56_11 (qBl (fun k26 => (qLoop (l56_30 k26))) (r56_15 kr)))))) k23)))
noncomputable def r56_4 (k : KT R) : KT R := fun fr H => opn 33 fr (fun s0 s1 s4 s5 s6 s7 s8 s9 s10 s11 s12 s13 s14 s15 s16 s26 s33 s43 s51 s64 s98 s108 s124 s139 s143 s156 s160 s171 s175 s176 s177 s181 s183 => 
(k [s0, s1, s4, s5, s6, s7, s8, s9, (.int .i64 0), s11, s12, s13, s14, s15, s16, s26, s33, s43, s51, s64, s98, s108, s124, s139, s143, s156, s160, s171, s175, s176, s177, s181, s183] H : R))
noncomputable def r56_3 (k : KT R) : KT R := fun fr H => opn 33 fr (fun s0 s1 s4 s5 s6 s7 s8 s9 s10 s11 s12 s13 s14 s15 s16 s26 s33 s43 s51 s64 s98 s108 s124 s139 s143 s156 s160 s171 s175 s176 s177 s181 s183 => 
(k [s0, s1, s4, s5, s6, s7, s8, s8, s10, s11, s12, s13, s14, s15, s16, s26, s33, s43, s51, s64, s98, s108, s124, s139, s143, s156, s160, s171, s175, s176, s177, s181, s183] H : R))
noncomputable def r56_2 (k : KT R) : KT R := fun fr H => opn 33 fr (fun s0 s1 s4 s5 s6 s7 s8 s9 s10 s11 s12 s13 s14 s15 s16 s26 s33 s43 s51 s64 s98 s108 s124 s139 s143 s156 s160 s171 s175 s176 s177 s181 s183 => 
(qLenS s7 fun v20 =>
qSub X 3 v20 (.int .i64 1) fun v21 =>
k [s0, s1, s4, s5, s6, s7, v21, s9, s10, s11, s12, s13, s14, s15, s16, s26, s33, s43, s51, s64, s98, s108, s124, s139, s143, s156, s160, s171, s175, s176, s177, s181, s183] H : R))
noncomputable def r56_1 (k : KT R) : KT R := fun fr H => opn 33 fr (fun s0 s1 s4 s5 s6 s7 s8 s9 s10 s11 s12 s13 s14 s15 s16 s26 s33 s43 s51 s64 s98 s108 s124 s139 s143 s156 s160 s171 s175 s176 s177 s181 s183 => 
(qO (conv X 21 9 s1) fun v18 =>
k [s0, s1, s4, s5, s6, v18, s8, s9, s10, s11, s12, s13, s14, s15, s16, s26, s33, s43, s51, s64, s98, s108, s124, s139, s143, s156, s160, s171, s175, s176, s177, s181, s183] H : R))
noncomputable def r56_43 (C : CallF) (k : KT R) : KT R := fun fr H => opn 33 fr (fun s0 s1 s4 s5 s6 s7 s8 s9 s10 s11 s12 s13 s14 s15 s16 s26 s33 s43 s51 s64 s98 s108 s124 s139 s143 s156 s160 s171 s175 s176 s177 s181 s183 => 
(qRes (C 68 [s1] H) fun v185 H =>
qNot v185 fun v186 =>
k [s0, s1, s4, s5, s6, s7, s8, s9, s10, s11, s12, s13, s14, s15, s16, s26, s33, s43, s51, s64, s98, s108, s124, s139, s143, s156, s160, s171, s175, s176, s177, s181, v186] H : R))
noncomputable def r56_36 (k : KT R) : KT R := fun fr H => opn 33 fr (fun s0 s1 s4 s5 s6 s7 s8 s9 s10 s11 s12 s13 s14 s15 s16 s26 s33 s43 s51 s64 s98 s108 s124 s139 s143 s156 s160 s171 s175 s176 s177 s181 s183 => 
(qEql X 21 s1 (.int .i32 65533) fun v173 =>
k [s0, s1, s4, s5, s6, s7, s8, s9, s10, s11, s12, s13, s14, s15, s16, s26, s33, s43, s51, s64, s98, s108, s124, s139, s143, s156, s160, v173, s175, s176, s177, s181, s183] H : R))
noncomputable def r56_34 (k : KT R) : KT R := fun fr H => opn 33 fr (fun s0 s1 s4 s5 s6 s7 s8 s9 s10 s11 s12 s13 s14 s15 s16 s26 s33 s43 s51 s64 s98 s108 s124 s139 s143 s156 s160 s171 s175 s176 s177 s181 s183 => 
(qLeq X 21 (.int .i32 0) s1 fun v162 =>
qG v162 true (fun k => k s1 H) H fun v164 H =>
qG v162 true (fun k => qLss X 21 v164 (.int .i32 128) fun v => k v H) H fun v165 H =>
qPick v162 v165 (.bool false) fun v166 =>
k [s0, s1, s4, s5, s6, s7, s8, s9, s10, s11, s12, s13, s14, s15, s16, s26, s33, s43, s51, s64, s98, s108, s124, s139, s143, s156, v166, s171, s175, s176, s177, s181, s183] H : R))
noncomputable def r56_0 (k : KT R) : KT R := fun fr H => opn 33 fr (fun s0 s1 s4 s5 s6 s7 s8 s9 s10 s11 s12 s13 s14 s15 s16 s26 s33 s43 s51 s64 s98 s108 s124 s139 s143 s156 s160 s171 s175 s176 s177 s181 s183 => 
(k [s0, s1, (.int .i64 0), s5, s6, s7, s8, s9, s10, s11, s12, s13, s14, s15, s16, s26, s33, s43, s51, s64, s98, s108, s124, s139, s143, s156, s160, s171, s175, s176, s177, s181, s183] H : R))
noncomputable def c56 (C : CallF) (l0 : List AV) (H : AH) (k : AV → AH → R) : R := opn 2 l0 (fun x0 x1 => (qFn (fun kr => (r56_0 (qBl (fun k1 => (r56_34 (qCd (sel 26) (fun _ => (r56_35 C kr)) (fun k2 => (r56_36 (qCd (sel 27) (fun _ => (r56_37 (qBl (fun k4 => (qLoop (l56_8 k4 kr))) (r56_42 kr)))) (fun k3 => (r56_43 C (qCd (sel 32) (fun _ => (r56_44 kr)) (fun _ => (r56_1 (r56_2 (r56_3 (r56_4 (qBl (fun k22 => (qLoop (l56_33 C k22 kr))) (r56_19 kr))))))) k3))) k2))) k1))) kr)))
(fun fr H => k (sel 2 fr) H) [x0, x1, Aes.undef, Aes.undef, Aes.undef, Aes.undef, Aes.undef, Aes.undef, Aes.undef, Aes.undef, Aes.undef, Aes.undef, Aes.undef, Aes.undef, Aes.undef, Aes.undef, Aes.undef, Aes.undef, Aes.undef, Aes.undef, Aes.undef, Aes.undef, Aes.undef, Aes.undef, Aes.undef, Aes.undef, Aes.undef, Aes.undef, Aes.undef, Aes.undef, Aes.undef, Aes.undef, Aes.undef] H : R))
/- strings.shouldUseASCIISet -/
noncomputable def r57_1 (k : KT R) : KT R := fun fr H => opn 2 fr (fun s0 s2 => 
(qGtr X 3 s0 (.int .i64 8) fun v4 =>
k [s0, v4] H : R))
noncomputable def r57_0 (k : KT R) : KT R := fun fr H => opn 2 fr (fun s0 s2 => 
(k [s0, (.bool false)] H : R))
noncomputable def c57 (C : CallF) (l0 : List AV) (H : AH) (k : AV → AH → R) : R := opn 1 l0 (fun x0 => (qFn (fun kr => (r57_0 (r57_1 kr)))
(fun fr H => k (sel 1 fr) H) [x0, Aes.undef] H : R))
/- (*strings.asciiSet).contains -/
noncomputable def r58_1 (k : KT R) : KT R := fun fr H => opn 3 fr (fun s0 s1 s4 => 
(qNc s0 fun v7 =>
qIaA 256 1 v7 s1 fun v8 =>
qLd v8 H fun v9 =>
k [s0, s1, v9] H : R))
noncomputable def r58_0 (k : KT R) : KT R := fun fr H => opn 3 fr (fun s0 s1 s4 => 
(k [s0, s1, (.bool false)] H : R))
noncomputable def c58 (C : CallF) (l0 : List AV) (H : AH) (k : AV → AH → R) : R := opn 2 l0 (fun x0 x1 => (qFn (fun kr => (r58_0 (r58_1 kr)))
(fun fr H => k (sel 2 fr) H) [x0, x1, Aes.undef] H : R))
/- unicode/utf8.AppendRune -/
noncomputable def r59_3 (C : CallF) (k : KT R) : KT R := fun fr H => opn 4 fr (fun s0 s1 s4 s7 => 
(qRes (C 71 [s0, s1] H) fun v15 H =>
k [s0, s1, v15, s7] H : R))
noncomputable def r59_2 (k : KT R) : KT R := fun fr H => opn 4 fr (fun s0 s1 s4 s7 => 
(qConvI .u8 s1 fun v10 =>
qRows z5 1 [(0, v10)] fun v11 =>
qApp 1 1 s0 v11 true (some 5) H fun v12 H =>
k [s0, s1, v12, s7] H : R))
noncomputable def r59_1 (k : KT R) : KT R := fun fr H => opn 4 fr (fun s0 s1 s4 s7 => 
(qConvI .u32 s1 fun v6 =>
qLeq X 99 v6 (.int .u32 127) fun v7 =>
k [s0, s1, s4, v7] H : R))
noncomputable def r59_0 (k : KT R) : KT R := fun fr H => opn 4 fr (fun s0 s1 s4 s7 => 
(k [s0, s1, (.sl [] .nil), s7] H : R))
noncomputable def c59 (C : CallF) (l0 : List AV) (H : AH) (k : AV → AH → R) : R := opn 2 l0 (fun x0 x1 => (qFn (fun kr => (r59_0 (r59_1 (qCd (sel 3) (fun _ => (r59_2 kr)) (fun k1 => k1) (r59_3 C kr)))))
(fun fr H => k (sel 2 fr) H) [x0, x1, Aes.undef, Aes.undef] H : R))
/- refectory/runes.four -/
noncomputable def r60_11 (k : KT R) : KT R := fun fr H => opn 10 fr (fun s0 s2 s3 s5 s6 s9 s13 s14 s15 s20 => 
(k [s0, s3, s3, s5, s6, s9, s13, s14, s15, s20] H : R))
noncomputable def r60_10 (k : KT R) : KT R := fun fr H => opn 10 fr (fun s0 s2 s3 s5 s6 s9 s13 s14 s15 s20 => 
(qO (binop X .shl 21 s3 (.int .u64 4)) fun v22 =>
qConvI .i32 s6 fun v24 =>
qO (binop X .or 21 v22 v24) fun v25 =>
k [s0, s2, v25, s5, s6, s9, s13, s14, s15, s20] H : R))
noncomputable def r60_9 (k : KT R) : KT R := fun fr H => opn 10 fr (fun s0 s2 s3 s5 s6 s9 s13 s14 s15 s20 => 
(k [s0, (.int .i32 (-1)), s3, s5, s6, s9, s13, s14, s15, s20] H : R))
noncomputable def r60_8 (k : KT R) : KT R := fun fr H => opn 10 fr (fun s0 s2 s3 s5 s6 s9 s13 s14 s15 s20 => 
(qLss X 3 s6 (.int .i64 0) fun v20 =>
k [s0, s2, s3, s5, s6, s9, s13, s14, s15, v20] H : R))
noncomputable def r60_7 (C : CallF) (k : KT R) : KT R := fun fr H => opn 10 fr (fun s0 s2 s3 s5 s6 s9 s13 s14 s15 s20 => 
(qRes (C 56 [(.str [48,49,50,51,52,53,54,55,56,57,97,98,99,100,101,102]), s5] H) fun v18 H =>
k [s0, s2, s3, s5, v18, s9, s13, s14, s15, s20] H : R))
noncomputable def r60_6 (k : KT R) : KT R := fun fr H => opn 10 fr (fun s0 s2 s3 s5 s6 s9 s13 s14 s15 s20 => 
(qExt s14 2 fun v16 =>
k [s0, s2, s3, v16, s6, s9, s13, s14, s15, s20] H : R))
noncomputable def r60_5 (k : KT R) : KT R := fun fr H => opn 10 fr (fun s0 s2 s3 s5 s6 s9 s13 s14 s15 s20 => 
(qNext s13 H fun v14 H =>
qExt v14 0 fun v15 =>
k [s0, s2, s3, s5, s6, s9, s13, v14, v15, s20] H : R))
noncomputable def l60_5 (C : CallF) (k1 : KT R) (kr : KT R) : KT R → KT R := fun k2 => (r60_5 (qCd (sel 8) (fun k5 => k5) (fun _ => k1) (qBl (fun k3 => (r60_6 (r60_7 C (r60_8 (qCd (sel 9) (fun _ => (r60_9 kr)) (fun k4 => k4) (r60_10 k3)))))) k2)))
noncomputable def r60_4 (C : CallF) (k : KT R) : KT R := fun fr H => opn 10 fr (fun s0 s2 s3 s5 s6 s9 s13 s14 s15 s20 => 
(qSlc Tryd.t9.desc 0 s0 none (some (.int .i64 4)) none fun v11 =>
qRes (C 72 [v11] H) fun v12 H =>
qRange v12 H fun v13 H =>
k [s0, s2, s3, s5, s6, s9, v13, s14, s15, s20] H : R))
noncomputable def r60_3 (k : KT R) : KT R := fun fr H => opn 10 fr (fun s0 s2 s3 s5 s6 s9 s13 s14 s15 s20 => 
(k [s0, s2, (.int .i32 0), s5, s6, s9, s13, s14, s15, s20] H : R))
noncomputable def r60_2 (k : KT R) : KT R := fun fr H => opn 10 fr (fun s0 s2 s3 s5 s6 s9 s13 s14 s15 s20 => 
(k [s0, (.int .i32 (-1)), s3, s5, s6, s9, s13, s14, s15, s20] H : R))
noncomputable def r60_1 (k : KT R) : KT R := fun fr H => opn 10 fr (fun s0 s2 s3 s5 s6 s9 s13 s14 s15 s20 => 
(qLenS s0 fun v8 =>
qLss X 3 v8 (.int .i64 4) fun v9 =>
k [s0, s2, s3, s5, s6, v9, s13, s14, s15, s20] H : R))
noncomputable def r60_0 (k : KT R) : KT R := fun fr H => opn 10 fr (fun s0 s2 s3 s5 s6 s9 s13 s14 s15 s20 => 
(k [s0, (.int .i32 0), s3, s5, s6, s9, s13, s14, s15, s20] H : R))
noncomputable def c60 (C : CallF) (l0 : List AV) (H : AH) (k : AV → AH → R) : R := opn 1 l0 (fun x0 => (qFn (fun kr => (r60_0 (r60_1 (qCd (sel 5) (fun _ => (r60_2 kr)) (fun k6 => k6) (r60_3 (r60_4 C (qBl (fun k1 => (qLoop (l60_5 C k1 kr))) (r60_11 kr))))))))
(fun fr H => k (sel 1 fr) H) [x0, Aes.undef, Aes.undef, Aes.undef, Aes.undef, Aes.undef, Aes.undef, Aes.undef, Aes.undef, Aes.undef] H : R))
/- unicode/utf8.DecodeRuneInString -/
noncomputable def r61_2 (k : KT R) : KT R := fun fr H => opn 4 fr (fun s0 s2 s3 s10 => 
(qIx s0 (.int .i64 0) fun v12 =>
qConvI .i32 v12 fun v13 =>
k [s0, v13, (.int .i64 1), s10] H : R))
noncomputable def r61_3 (C : CallF) (k : KT R) : KT R := fun fr H => opn 4 fr (fun s0 s2 s3 s10 => 
(qRes (C 73 [s0] H) fun v16 H =>
qExt v16 0 fun v17 =>
qExt v16 1 fun v18 =>
k [s0, v17, v18, s10] H : R))
noncomputable def r61_1 (k : KT R) : KT R := fun fr H => opn 4 fr (fun s0 s2 s3 s10 => 
(qNeq X 9 s0 (.str []) fun v5 =>
qG v5 true (fun k => k s0 H) H fun v7 H =>
qG v5 true (fun k => qIx v7 (.int .i64 0) fun v => k v H) H fun v8 H =>
qG v5 true (fun k => qLss X 5 v8 (.int .u8 128) fun v => k v H) H fun v9 H =>
qPick v5 v9 (.bool false) fun v10 =>
k [s0, s2, s3, v10] H : R))
noncomputable def r61_0 (k : KT R) : KT R := fun fr H => opn 4 fr (fun s0 s2 s3 s10 => 
(k [s0, (.int .i32 0), (.int .i64 0), s10] H : R))
noncomputable def c61 (C : CallF) (l0 : List AV) (H : AH) (k : AV → AH → R) : R := opn 1 l0 (fun x0 => (qFn (fun kr => (r61_0 (r61_1 (qCd (sel 3) (fun _ => (r61_2 kr)) (fun k1 => (r61_3 C k1)) kr))))
(fun fr H => k (.tup [(sel 1 fr), (sel 2 fr)]) H) [x0, Aes.undef, Aes.undef, Aes.undef] H : R))
/- strings.ContainsRune -/
noncomputable def r62_1 (C : CallF) (k : KT R) : KT R := fun fr H => opn 3 fr (fun s0 s1 s4 => 
(qRes (C 56 [s0, s1] H) fun v7 H =>
qGeq X 3 v7 (.int .i64 0) fun v8 =>
k [s0, s1, v8] H : R))
noncomputable def r62_0 (k : KT R) : KT R := fun fr H => opn 3 fr (fun s0 s1 s4 => 
(k [s0, s1, (.bool false)] H : R))
noncomputable def c62 (C : CallF) (l0 : List AV) (H : AH) (k : AV → AH → R) : R := opn 2 l0 (fun x0 x1 => (qFn (fun kr => (r62_0 (r62_1 C kr)))
(fun fr H => k (sel 2 fr) H) [x0, x1, Aes.undef] H : R))
/- strings.explode -/
noncomputable def r64_13 (k : KT R) : KT R := fun fr H => opn 10 fr (fun s0 s1 s4 s5 s6 s7 s9 s18 s25 s43 => 
(k [s0, s1, s6, s5, s6, s7, s9, s18, s25, s43] H : R))
noncomputable def r64_12 (k : KT R) : KT R := fun fr H => opn 10 fr (fun s0 s1 s4 s5 s6 s7 s9 s18 s25 s43 => 
(qSub X 3 s1 (.int .i64 1) fun v46 =>
qIa 1 s6 v46 fun v48 =>
qSt 1 v48 s0 H fun _ H =>
k [s0, s1, s4, s5, s6, s7, s9, s18, s25, s43] H : R))
noncomputable def r64_11 (k : KT R) : KT R := fun fr H => opn 10 fr (fun s0 s1 s4 s5 s6 s7 s9 s18 s25 s43 => 
(qGtr X 3 s1 (.int .i64 0) fun v43 =>
k [s0, s1, s4, s5, s6, s7, s9, s18, s25, v43] H : R))
noncomputable def r64_7 (k : KT R) : KT R := fun fr H => opn 10 fr (fun s0 s1 s4 s5 s6 s7 s9 s18 s25 s43 => 
(qAdd X 3 s7 (.int .i64 1) fun v27 =>
k [s0, s1, s4, s5, s6, v27, s9, s18, s25, s43] H : R))
noncomputable def r64_10 (k : KT R) : KT R := fun fr H => opn 10 fr (fun s0 s1 s4 s5 s6 s7 s9 s18 s25 s43 => 
(qSlc Tryd.t9.desc 0 s0 (some s9) none none fun v41 =>
k [v41, s1, s4, s5, s6, s7, s9, s18, s25, s43] H : R))
noncomputable def r64_9 (k : KT R) : KT R := fun fr H => opn 10 fr (fun s0 s1 s4 s5 s6 s7 s9 s18 s25 s43 => 
(qSlc Tryd.t9.desc 0 s0 none (some s9) none fun v37 =>
qIa 1 s6 s7 fun v38 =>
qSt 1 v38 v37 H fun _ H =>
k [s0, s1, s4, s5, s6, s7, s9, s18, s25, s43] H : R))
noncomputable def r64_8 (C : CallF) (k : KT R) : KT R := fun fr H => opn 10 fr (fun s0 s1 s4 s5 s6 s7 s9 s18 s25 s43 => 
(qRes (C 61 [s0] H) fun v30 H =>
qExt v30 0 fun v31 =>
qExt v30 1 fun v32 =>
k [s0, s1, s4, s5, s6, s7, v32, s18, s25, s43] H : R))
noncomputable def r64_6 (k : KT R) : KT R := fun fr H => opn 10 fr (fun s0 s1 s4 s5 s6 s7 s9 s18 s25 s43 => 
(qSub X 3 s1 (.int .i64 1) fun v24 =>
qLss X 3 s7 v24 fun v25 =>
k [s0, s1, s4, s5, s6, s7, s9, s18, v25, s43] H : R))
noncomputable def l64_5 (C : CallF) (k2 : KT R) : KT R → KT R := fun k3 => (r64_6 (qCd (sel 8) (fun k5 => k5) (fun _ => k2) (qBl (fun k4 => (r64_8 C (r64_9 (r64_10 k4)))) (r64_7 k3))))
noncomputable def r64_5 (k : KT R) : KT R := fun fr H => opn 10 fr (fun s0 s1 s4 s5 s6 s7 s9 s18 s25 s43 => 
(k [s0, s1, s4, s5, s6, (.int .i64 0), s9, s18, s25, s43] H : R))
noncomputable def r64_4 (k : KT R) : KT R := fun fr H => opn 10 fr (fun s0 s1 s4 s5 s6 s7 s9 s18 s25 s43 => 
(qMkS z9 1 16 s1 s1 H fun v21 H =>
k [s0, s1, s4, s5, v21, s7, s9, s18, s25, s43] H : R))
noncomputable def r64_3 (k : KT R) : KT R := fun fr H => opn 10 fr (fun s0 s1 s4 s5 s6 s7 s9 s18 s25 s43 => 
(k [s0, s5, s4, s5, s6, s7, s9, s18, s25, s43] H : R))
noncomputable def r64_2 (k : KT R) : KT R := fun fr H => opn 10 fr (fun s0 s1 s4 s5 s6 s7 s9 s18 s25 s43 => 
(qLss X 3 s1 (.int .i64 0) fun v13 =>
qG v13 false (fun k => k s1 H) H fun v15 H =>
qG v13 false (fun k => k s5 H) H fun v16 H =>
qG v13 false (fun k => qGtr X 3 v15 v16 fun v => k v H) H fun v17 H =>
qPick v13 (.bool true) v17 fun v18 =>
k [s0, s1, s4, s5, s6, s7, s9, v18, s25, s43] H : R))
noncomputable def r64_1 (C : CallF) (k : KT R) : KT R := fun fr H => opn 10 fr (fun s0 s1 s4 s5 s6 s7 s9 s18 s25 s43 => 
(qRes (C 74 [s0] H) fun v11 H =>
k [s0, s1, s4, v11, s6, s7, s9, s18, s25, s43] H : R))
noncomputable def r64_0 (k : KT R) : KT R := fun fr H => opn 10 fr (fun s0 s1 s4 s5 s6 s7 s9 s18 s25 s43 => 
(k [s0, s1, (.sl [] .nil), s5, s6, s7, s9, s18, s25, s43] H : R))
noncomputable def c64 (C : CallF) (l0 : List AV) (H : AH) (k : AV → AH → R) : R := opn 2 l0 (fun x0 x1 => (qFn (fun kr => (r64_0 (r64_1 C (r64_2 (qCd (sel 7) (fun k6 => (r64_3 k6)) (fun k6 => k6) (r64_4 (r64_5 (qBl (fun k2 => (qLoop (l64_5 C k2))) (r64_11 (qCd (sel 9) (fun k1 => (r64_12 k1)) (fun k1 => k1) (r64_13 kr)))))))))))
(fun fr H => k (sel 2 fr) H) [x0, x1, Aes.undef, Aes.undef, Aes.undef, Aes.undef, Aes.undef, Aes.undef, Aes.undef, Aes.undef] H : R))
/- strings.Count -/
noncomputable def r65_10 (k : KT R) : KT R := fun fr H => opn 8 fr (fun s0 s1 s4 s5 s6 s9 s15 s24 => 
(qLenS s1 fun v31 =>
qAdd X 3 s6 v31 fun v32 =>
qSlc Tryd.t9.desc 0 s0 (some v32) none none fun v33 =>
k [v33, s1, s4, s5, s6, s9, s15, s24] H : R))
noncomputable def r65_9 (k : KT R) : KT R := fun fr H => opn 8 fr (fun s0 s1 s4 s5 s6 s9 s15 s24 => 
(qAdd X 3 s5 (.int .i64 1) fun v27 =>
k [s0, s1, s4, v27, s6, s9, s15, s24] H : R))
noncomputable def r65_8 (k : KT R) : KT R := fun fr H => opn 8 fr (fun s0 s1 s4 s5 s6 s9 s15 s24 => 
(k [s0, s1, s5, s5, s6, s9, s15, s24] H : R))
noncomputable def r65_7 (k : KT R) : KT R := fun fr H => opn 8 fr (fun s0 s1 s4 s5 s6 s9 s15 s24 => 
(qEql X 3 s6 (.int .i64 (-1)) fun v24 =>
k [s0, s1, s4, s5, s6, s9, s15, v24] H : R))
noncomputable def r65_6 (C : CallF) (k : KT R) : KT R := fun fr H => opn 8 fr (fun s0 s1 s4 s5 s6 s9 s15 s24 => 
(qRes (C 66 [s0, s1] H) fun v22 H =>
k [s0, s1, s4, s5, v22, s9, s15, s24] H : R))
noncomputable def l65_4 (C : CallF) (kr : KT R) : KT R → KT R := fun k2 => (qBl (fun k3 => (r65_6 C (r65_7 (qCd (sel 7) (fun _ => (r65_8 kr)) (fun k4 => k4) (r65_9 (r65_10 k3)))))) k2)
noncomputable def r65_5 (k : KT R) : KT R := fun fr H => opn 8 fr (fun s0 s1 s4 s5 s6 s9 s15 s24 => 
(k [s0, s1, s4, (.int .i64 0), s6, s9, s15, s24] H : R))
noncomputable def r65_4 (C : CallF) (k : KT R) : KT R := fun fr H => opn 8 fr (fun s0 s1 s4 s5 s6 s9 s15 s24 => 
(qIx s1 (.int .i64 0) fun v18 =>
qRes (C 75 [s0, v18] H) fun v19 H =>
k [s0, s1, v19, s5, s6, s9, s15, s24] H : R))
noncomputable def r65_3 (k : KT R) : KT R := fun fr H => opn 8 fr (fun s0 s1 s4 s5 s6 s9 s15 s24 => 
(qLenS s1 fun v14 =>
qEql X 3 v14 (.int .i64 1) fun v15 =>
k [s0, s1, s4, s5, s6, s9, v15, s24] H : R))
noncomputable def r65_2 (C : CallF) (k : KT R) : KT R := fun fr H => opn 8 fr (fun s0 s1 s4 s5 s6 s9 s15 s24 => 
(qRes (C 74 [s0] H) fun v11 H =>
qAdd X 3 v11 (.int .i64 1) fun v12 =>
k [s0, s1, v12, s5, s6, s9, s15, s24] H : R))
noncomputable def r65_1 (k : KT R) : KT R := fun fr H => opn 8 fr (fun s0 s1 s4 s5 s6 s9 s15 s24 => 
(qLenS s1 fun v8 =>
qEql X 3 v8 (.int .i64 0) fun v9 =>
k [s0, s1, s4, s5, s6, v9, s15, s24] H : R))
noncomputable def r65_0 (k : KT R) : KT R := fun fr H => opn 8 fr (fun s0 s1 s4 s5 s6 s9 s15 s24 => 
(k [s0, s1, (.int .i64 0), s5, s6, s9, s15, s24] H : R))
noncomputable def c65 (C : CallF) (l0 : List AV) (H : AH) (k : AV → AH → R) : R := opn 2 l0 (fun x0 x1 => (qFn (fun kr => (r65_0 (r65_1 (qCd (sel 5) (fun _ => (r65_2 C kr)) (fun k6 => k6) (r65_3 (qCd (sel 6) (fun _ => (r65_4 C kr)) (fun k5 => k5) (r65_5 (qBl (fun k1 => (qLoop (l65_4 C kr))) kr))))))))
(fun fr H => k (sel 2 fr) H) [x0, x1, Aes.undef, Aes.undef, Aes.undef, Aes.undef, Aes.undef, Aes.undef] H : R))
/- strings.Index -/
noncomputable def r66_1 (C : CallF) (k : KT R) : KT R := fun fr H => opn 3 fr (fun s0 s1 s4 => 
(qRes (C 76 [s0, s1] H) fun v7 H =>
k [s0, s1, v7] H : R))
noncomputable def r66_0 (k : KT R) : KT R := fun fr H => opn 3 fr (fun s0 s1 s4 => 
(k [s0, s1, (.int .i64 0)] H : R))
noncomputable def c66 (C : CallF) (l0 : List AV) (H : AH) (k : AV → AH → R) : R := opn 2 l0 (fun x0 x1 => (qFn (fun kr => (r66_0 (r66_1 C kr)))
(fun fr H => k (sel 2 fr) H) [x0, x1, Aes.undef] H : R))
/- unicode/utf8.ValidRune -/
noncomputable def r68_5 (k : KT R) : KT R := fun fr H => opn 4 fr (fun s0 s2 s3 s10 => 
(k [s0, (.bool false), s3, s10] H : R))
noncomputable def r68_2 (k : KT R) : KT R := fun fr H => opn 4 fr (fun s0 s2 s3 s10 => 
(k [s0, (.bool true), s3, s10] H : R))
noncomputable def r68_4 (k : KT R) : KT R := fun fr H => opn 4 fr (fun s0 s2 s3 s10 => 
(k [s0, (.bool true), s3, s10] H : R))
noncomputable def r68_3 (k : KT R) : KT R := fun fr H => opn 4 fr (fun s0 s2 s3 s10 => 
(qLss X 21 (.int .i32 57343) s0 fun v12 =>
qG v12 true (fun k => k s0 H) H fun v14 H =>
qG v12 true (fun k => qLeq X 21 v14 (.int .i32 1114111) fun v => k v H) H fun v15 H =>
qPick v12 v15 (.bool false) fun v16 =>
k [s0, s2, s3, v16] H : R))
noncomputable def r68_1 (k : KT R) : KT R := fun fr H => opn 4 fr (fun s0 s2 s3 s10 => 
(qLeq X 21 (.int .i32 0) s0 fun v5 =>
qG v5 true (fun k => k s0 H) H fun v7 H =>
qG v5 true (fun k => qLss X 21 v7 (.int .i32 55296) fun v => k v H) H fun v8 H =>
qPick v5 v8 (.bool false) fun v9 =>
k [s0, s2, v9, s10] H : R))
noncomputable def r68_0 (k : KT R) : KT R := fun fr H => opn 4 fr (fun s0 s2 s3 s10 => 
(k [s0, (.bool false), s3, s10] H : R))
noncomputable def c68 (C : CallF) (l0 : List AV) (H : AH) (k : AV → AH → R) : R := opn 1 l0 (fun x0 => (qFn (fun kr => (r68_0 (qBl (fun k1 => (r68_1 (qCd (sel 2) (fun _ => (r68_2 kr)) (fun k2 => (r68_3 (qCd (sel 3) (fun _ => (r68_4 kr)) (fun k3 => k3) k2))) k1))) (r68_5 kr))))
(fun fr H => k (sel 1 fr) H) [x0, Aes.undef, Aes.undef, Aes.undef] H : R))
/- internal/bytealg.Cutover -/
noncomputable def r69_1 (k : KT R) : KT R := fun fr H => opn 2 fr (fun s0 s2 => 
(qAdd X 3 s0 (.int .i64 16) fun v4 =>
qQuo X 3 v4 (.int .i64 8) fun v5 =>
k [s0, v5] H : R))
noncomputable def r69_0 (k : KT R) : KT R := fun fr H => opn 2 fr (fun s0 s2 => 
(k [s0, (.int .i64 0)] H : R))
noncomputable def c69 (C : CallF) (l0 : List AV) (H : AH) (k : AV → AH → R) : R := opn 1 l0 (fun x0 => (qFn (fun kr => (r69_0 (r69_1 kr)))
(fun fr H => k (sel 1 fr) H) [x0, Aes.undef] H : R))
/- unicode/utf8.appendRuneNonASCII -/
noncomputable def r71_4 (k : KT R) : KT R := fun fr H => opn 7 fr (fun s0 s1 s4 s5 s11 s25 s50 => 
(qO (binop X .shr 21 s1 (.int .u64 6)) fun v16 =>
qConvI .u8 v16 fun v17 =>
qO (binop X .or 5 (.int .u8 192) v17) fun v18 =>
qConvI .u8 s1 fun v20 =>
qO (binop X .and 5 v20 (.int .u8 63)) fun v21 =>
qO (binop X .or 5 (.int .u8 128) v21) fun v22 =>
qRows z5 2 [(0, v18), (1, v22)] fun v23 =>
qApp 1 1 s0 v23 true (some 5) H fun v24 H =>
k [s0, s1, v24, s5, s11, s25, s50] H : R))
noncomputable def r71_7 (k : KT R) : KT R := fun fr H => opn 7 fr (fun s0 s1 s4 s5 s11 s25 s50 => 
(qO (binop X .shr 21 s1 (.int .u64 12)) fun v36 =>
qConvI .u8 v36 fun v37 =>
qO (binop X .or 5 (.int .u8 224) v37) fun v38 =>
qO (binop X .shr 21 s1 (.int .u64 6)) fun v40 =>
qConvI .u8 v40 fun v41 =>
qO (binop X .and 5 v41 (.int .u8 63)) fun v42 =>
qO (binop X .or 5 (.int .u8 128) v42) fun v43 =>
qConvI .u8 s1 fun v45 =>
qO (binop X .and 5 v45 (.int .u8 63)) fun v46 =>
qO (binop X .or 5 (.int .u8 128) v46) fun v47 =>
qRows z5 3 [(0, v38), (1, v43), (2, v47)] fun v48 =>
qApp 1 1 s0 v48 true (some 5) H fun v49 H =>
k [s0, s1, v49, s5, s11, s25, s50] H : R))
noncomputable def r71_9 (k : KT R) : KT R := fun fr H => opn 7 fr (fun s0 s1 s4 s5 s11 s25 s50 => 
(qO (binop X .shr 21 s1 (.int .u64 18)) fun v59 =>
qConvI .u8 v59 fun v60 =>
qO (binop X .or 5 (.int .u8 240) v60) fun v61 =>
qO (binop X .shr 21 s1 (.int .u64 12)) fun v63 =>
qConvI .u8 v63 fun v64 =>
qO (binop X .and 5 v64 (.int .u8 63)) fun v65 =>
qO (binop X .or 5 (.int .u8 128) v65) fun v66 =>
qO (binop X .shr 21 s1 (.int .u64 6)) fun v68 =>
qConvI .u8 v68 fun v69 =>
qO (binop X .and 5 v69 (.int .u8 63)) fun v70 =>
qO (binop X .or 5 (.int .u8 128) v70) fun v71 =>
qConvI .u8 s1 fun v73 =>
qO (binop X .and 5 v73 (.int .u8 63)) fun v74 =>
qO (binop X .or 5 (.int .u8 128) v74) fun v75 =>
qRows z5 4 [(0, v61), (1, v66), (2, v71), (3, v75)] fun v76 =>
qApp 1 1 s0 v76 true (some 5) H fun v77 H =>
k [s0, s1, v77, s5, s11, s25, s50] H : R))
noncomputable def r71_2 (k : KT R) : KT R := fun fr H => opn 7 fr (fun s0 s1 s4 s5 s11 s25 s50 => 
(qRows z5 3 [(0, (.int .u8 239)), (1, (.int .u8 191)), (2, (.int .u8 189))] fun v9 =>
qApp 1 1 s0 v9 true (some 5) H fun v10 H =>
k [s0, s1, v10, s5, s11, s25, s50] H : R))
noncomputable def r71_8 (k : KT R) : KT R := fun fr H => opn 7 fr (fun s0 s1 s4 s5 s11 s25 s50 => 
(qGtr X 99 s5 (.int .u32 65535) fun v52 =>
qG v52 true (fun k => k s5 H) H fun v54 H =>
qG v52 true (fun k => qLeq X 99 v54 (.int .u32 1114111) fun v => k v H) H fun v55 H =>
qPick v52 v55 (.bool false) fun v56 =>
k [s0, s1, s4, s5, s11, s25, v56] H : R))
noncomputable def r71_6 (k : KT R) : KT R := fun fr H => opn 7 fr (fun s0 s1 s4 s5 s11 s25 s50 => 
(qLss X 99 (.int .u32 57343) s5 fun v29 =>
qG v29 true (fun k => k s5 H) H fun v31 H =>
qG v29 true (fun k => qLeq X 99 v31 (.int .u32 65535) fun v => k v H) H fun v32 H =>
qPick v29 v32 (.bool false) fun v33 =>
k [s0, s1, s4, s5, s11, v33, s50] H : R))
noncomputable def r71_5 (k : KT R) : KT R := fun fr H => opn 7 fr (fun s0 s1 s4 s5 s11 s25 s50 => 
(qLss X 99 s5 (.int .u32 55296) fun v27 =>
k [s0, s1, s4, s5, s11, v27, s50] H : R))
noncomputable def r71_3 (k : KT R) : KT R := fun fr H => opn 7 fr (fun s0 s1 s4 s5 s11 s25 s50 => 
(qLeq X 99 s5 (.int .u32 2047) fun v13 =>
k [s0, s1, s4, s5, v13, s25, s50] H : R))
noncomputable def r71_1 (k : KT R) : KT R := fun fr H => opn 7 fr (fun s0 s1 s4 s5 s11 s25 s50 => 
(qConvI .u32 s1 fun v7 =>
k [s0, s1, s4, v7, s11, s25, s50] H : R))
noncomputable def r71_0 (k : KT R) : KT R := fun fr H => opn 7 fr (fun s0 s1 s4 s5 s11 s25 s50 => 
(k [s0, s1, (.sl [] .nil), s5, s11, s25, s50] H : R))
noncomputable def c71 (C : CallF) (l0 : List AV) (H : AH) (k : AV → AH → R) : R := opn 2 l0 (fun x0 x1 => (qFn (fun kr => (r71_0 (r71_1 (qBl (fun k1 => (r71_3 (qCd (sel 4) (fun _ => (r71_4 kr)) (fun k2 => (r71_5 (qCd (sel 5) (fun k5 => k5) (fun k5 => (r71_6 k5)) (qCd (sel 5) (fun _ => (r71_7 kr)) (fun k3 => (r71_8 (qCd (sel 6) (fun _ => (r71_9 kr)) (fun _ => (r71_2 kr)) k3))) k2)))) k1))) kr))))
(fun fr H => k (sel 2 fr) H) [x0, x1, Aes.undef, Aes.undef, Aes.undef, Aes.undef, Aes.undef] H : R))
/- strings.ToLower -/
noncomputable def r72_28 (C : CallF) (k : KT R) : KT R := fun fr H => opn 18 fr (fun s0 s2 s3 s4 s5 s6 s7 s8 s9 s10 s14 s21 s31 s33 s41 s52 s57 s70 => 
(qRes (C 78 [(.fn (.func 79) [] []), s0] H) fun v77 H =>
k [s0, v77, s3, s4, s5, s6, s7, s8, s9, s10, s14, s21, s31, s33, s41, s52, s57, s70] H : R))
noncomputable def r72_27 (C : CallF) (k : KT R) : KT R := fun fr H => opn 18 fr (fun s0 s2 s3 s4 s5 s6 s7 s8 s9 s10 s14 s21 s31 s33 s41 s52 s57 s70 => 
(qRes (C 29 [s7] H) fun v75 H =>
k [s0, v75, s3, s4, s5, s6, s7, s8, s9, s10, s14, s21, s31, s33, s41, s52, s57, s70] H : R))
noncomputable def r72_26 (C : CallF) (k : KT R) : KT R := fun fr H => opn 18 fr (fun s0 s2 s3 s4 s5 s6 s7 s8 s9 s10 s14 s21 s31 s33 s41 s52 s57 s70 => 
(qSlc Tryd.t9.desc 0 s0 (some s8) none none fun v73 =>
qRes (C 27 [s7, v73] H) fun v74 H =>
k [s0, s2, s3, s4, s5, s6, s7, s8, s9, s10, s14, s21, s31, s33, s41, s52, s57, s70] H : R))
noncomputable def r72_25 (k : KT R) : KT R := fun fr H => opn 18 fr (fun s0 s2 s3 s4 s5 s6 s7 s8 s9 s10 s14 s21 s31 s33 s41 s52 s57 s70 => 
(qLenS s0 fun v69 =>
qLss X 3 s8 v69 fun v70 =>
k [s0, s2, s3, s4, s5, s6, s7, s8, s9, s10, s14, s21, s31, s33, s41, s52, s57, v70] H : R))
noncomputable def r72_17 (k : KT R) : KT R := fun fr H => opn 18 fr (fun s0 s2 s3 s4 s5 s6 s7 s8 s9 s10 s14 s21 s31 s33 s41 s52 s57 s70 => 
(qAdd X 3 s9 (.int .i64 1) fun v43 =>
k [s0, s2, s3, s4, s5, s6, s7, s8, v43, s10, s14, s21, s31, s33, s41, s52, s57, s70] H : R))
noncomputable def r72_24 (k : KT R) : KT R := fun fr H => opn 18 fr (fun s0 s2 s3 s4 s5 s6 s7 s8 s9 s10 s14 s21 s31 s33 s41 s52 s57 s70 => 
(qAdd X 3 s9 (.int .i64 1) fun v66 =>
k [s0, s2, s3, s4, s5, s6, s7, v66, s9, s10, s14, s21, s31, s33, s41, s52, s57, s70] H : R))
noncomputable def r72_23 (C : CallF) (k : KT R) : KT R := fun fr H => opn 18 fr (fun s0 s2 s3 s4 s5 s6 s7 s8 s9 s10 s14 s21 s31 s33 s41 s52 s57 s70 => 
(qRes (C 31 [s7, s10] H) fun v64 H =>
k [s0, s2, s3, s4, s5, s6, s7, s8, s9, s10, s14, s21, s31, s33, s41, s52, s57, s70] H : R))
noncomputable def r72_22 (C : CallF) (k : KT R) : KT R := fun fr H => opn 18 fr (fun s0 s2 s3 s4 s5 s6 s7 s8 s9 s10 s14 s21 s31 s33 s41 s52 s57 s70 => 
(qSlc Tryd.t9.desc 0 s0 (some s8) (some s9) none fun v61 =>
qRes (C 27 [s7, v61] H) fun v62 H =>
k [s0, s2, s3, s4, s5, s6, s7, s8, s9, s10, s14, s21, s31, s33, s41, s52, s57, s70] H : R))
noncomputable def r72_21 (k : KT R) : KT R := fun fr H => opn 18 fr (fun s0 s2 s3 s4 s5 s6 s7 s8 s9 s10 s14 s21 s31 s33 s41 s52 s57 s70 => 
(qLss X 3 s8 s9 fun v57 =>
k [s0, s2, s3, s4, s5, s6, s7, s8, s9, s10, s14, s21, s31, s33, s41, s52, v57, s70] H : R))
noncomputable def r72_20 (k : KT R) : KT R := fun fr H => opn 18 fr (fun s0 s2 s3 s4 s5 s6 s7 s8 s9 s10 s14 s21 s31 s33 s41 s52 s57 s70 => 
(qAdd X 5 s10 (.int .u8 32) fun v54 =>
k [s0, s2, s3, s4, s5, s6, s7, s8, s9, v54, s14, s21, s31, s33, s41, s52, s57, s70] H : R))
noncomputable def r72_19 (k : KT R) : KT R := fun fr H => opn 18 fr (fun s0 s2 s3 s4 s5 s6 s7 s8 s9 s10 s14 s21 s31 s33 s41 s52 s57 s70 => 
(qLeq X 5 (.int .u8 65) s10 fun v48 =>
qG v48 true (fun k => k s10 H) H fun v50 H =>
qG v48 true (fun k => qLeq X 5 v50 (.int .u8 90) fun v => k v H) H fun v51 H =>
qPick v48 v51 (.bool false) fun v52 =>
k [s0, s2, s3, s4, s5, s6, s7, s8, s9, s10, s14, s21, s31, s33, s41, v52, s57, s70] H : R))
noncomputable def r72_18 (k : KT R) : KT R := fun fr H => opn 18 fr (fun s0 s2 s3 s4 s5 s6 s7 s8 s9 s10 s14 s21 s31 s33 s41 s52 s57 s70 => 
(qIx s0 s9 fun v46 =>
k [s0, s2, s3, s4, s5, s6, s7, s8, s9, v46, s14, s21, s31, s33, s41, s52, s57, s70] H : R))
noncomputable def r72_16 (k : KT R) : KT R := fun fr H => opn 18 fr (fun s0 s2 s3 s4 s5 s6 s7 s8 s9 s10 s14 s21 s31 s33 s41 s52 s57 s70 => 
(qLenS s0 fun v40 =>
qLss X 3 s9 v40 fun v41 =>
k [s0, s2, s3, s4, s5, s6, s7, s8, s9, s10, s14, s21, s31, s33, v41, s52, s57, s70] H : R))
noncomputable def l72_8 (C : CallF) (k3 : KT R) : KT R → KT R := fun k4 => (r72_16 (qCd (sel 14) (fun k8 => k8) (fun _ => k3) (qBl (fun k5 => (r72_18 (r72_19 (qCd (sel 15) (fun k6 => (r72_20 (r72_21 (qCd (sel 16) (fun k7 => (r72_22 C k7)) (fun k7 => k7) (r72_23 C (r72_24 k6)))))) (fun k6 => k6) k5)))) (r72_17 k4))))
noncomputable def r72_15 (k : KT R) : KT R := fun fr H => opn 18 fr (fun s0 s2 s3 s4 s5 s6 s7 s8 s9 s10 s14 s21 s31 s33 s41 s52 s57 s70 => 
(k [s0, s2, s3, s4, s5, s6, s7, s8, (.int .i64 0), s10, s14, s21, s31, s33, s41, s52, s57, s70] H : R))
noncomputable def r72_14 (C : CallF) (k : KT R) : KT R := fun fr H => opn 18 fr (fun s0 s2 s3 s4 s5 s6 s7 s8 s9 s10 s14 s21 s31 s33 s41 s52 s57 s70 => 
(qLenS s0 fun v36 =>
qRes (C 55 [s7, v36] H) fun v37 H =>
k [s0, s2, s3, s4, s5, s6, s7, s8, s9, s10, s14, s21, s31, s33, s41, s52, s57, s70] H : R))
noncomputable def r72_13 (k : KT R) : KT R := fun fr H => opn 18 fr (fun s0 s2 s3 s4 s5 s6 s7 s8 s9 s10 s14 s21 s31 s33 s41 s52 s57 s70 => 
(k [s0, s2, s3, s4, s5, s6, s7, (.int .i64 0), s9, s10, s14, s21, s31, s33, s41, s52, s57, s70] H : R))
noncomputable def r72_12 (k : KT R) : KT R := fun fr H => opn 18 fr (fun s0 s2 s3 s4 s5 s6 s7 s8 s9 s10 s14 s21 s31 s33 s41 s52 s57 s70 => 
(qNew (.obj 54 0 z54) .ptr H fun v7 H =>
k [s0, s2, s3, s4, s5, s6, v7, s8, s9, s10, s14, s21, s31, s33, s41, s52, s57, s70] H : R))
noncomputable def r72_11 (k : KT R) : KT R := fun fr H => opn 18 fr (fun s0 s2 s3 s4 s5 s6 s7 s8 s9 s10 s14 s21 s31 s33 s41 s52 s57 s70 => 
(k [s0, s0, s3, s4, s5, s6, s7, s8, s9, s10, s14, s21, s31, s33, s41, s52, s57, s70] H : R))
noncomputable def r72_10 (k : KT R) : KT R := fun fr H => opn 18 fr (fun s0 s2 s3 s4 s5 s6 s7 s8 s9 s10 s14 s21 s31 s33 s41 s52 s57 s70 => 
(qNot s4 fun v33 =>
k [s0, s2, s3, s4, s5, s6, s7, s8, s9, s10, s14, s21, s31, v33, s41, s52, s57, s70] H : R))
noncomputable def r72_9 (k : KT R) : KT R := fun fr H => opn 18 fr (fun s0 s2 s3 s4 s5 s6 s7 s8 s9 s10 s14 s21 s31 s33 s41 s52 s57 s70 => 
(k [s0, s2, s3, s4, s5, s6, s7, s8, s9, s10, s14, s21, s3, s33, s41, s52, s57, s70] H : R))
noncomputable def r72_4 (k : KT R) : KT R := fun fr H => opn 18 fr (fun s0 s2 s3 s4 s5 s6 s7 s8 s9 s10 s14 s21 s31 s33 s41 s52 s57 s70 => 
(qAdd X 3 s5 (.int .i64 1) fun v16 =>
k [s0, s2, s3, s4, v16, s6, s7, s8, s9, s10, s14, s21, s31, s33, s41, s52, s57, s70] H : R))
noncomputable def r72_8 (k : KT R) : KT R := fun fr H => opn 18 fr (fun s0 s2 s3 s4 s5 s6 s7 s8 s9 s10 s14 s21 s31 s33 s41 s52 s57 s70 => 
(qG s4 false (fun k => k s6 H) H fun v24 H =>
qG s4 false (fun k => qLeq X 5 (.int .u8 65) v24 fun v => k v H) H fun v25 H =>
qG s4 false (fun k => k v25 H) H fun v26 H =>
qG v26 true (fun k => k s6 H) H fun v27 H =>
qG v26 true (fun k => qLeq X 5 v27 (.int .u8 90) fun v => k v H) H fun v28 H =>
qG s4 false (fun k => qPick v26 v28 (.bool false) fun v => k v H) H fun v29 H =>
qPick s4 (.bool true) v29 fun v30 =>
k [s0, s2, s3, v30, s5, s6, s7, s8, s9, s10, s14, s21, s31, s33, s41, s52, s57, s70] H : R))
noncomputable def r72_7 (k : KT R) : KT R := fun fr H => opn 18 fr (fun s0 s2 s3 s4 s5 s6 s7 s8 s9 s10 s14 s21 s31 s33 s41 s52 s57 s70 => 
(k [s0, s2, (.bool false), s4, s5, s6, s7, s8, s9, s10, s14, s21, s31, s33, s41, s52, s57, s70] H : R))
noncomputable def r72_6 (k : KT R) : KT R := fun fr H => opn 18 fr (fun s0 s2 s3 s4 s5 s6 s7 s8 s9 s10 s14 s21 s31 s33 s41 s52 s57 s70 => 
(qGeq X 5 s6 (.int .u8 128) fun v21 =>
k [s0, s2, s3, s4, s5, s6, s7, s8, s9, s10, s14, v21, s31, s33, s41, s52, s57, s70] H : R))
noncomputable def r72_5 (k : KT R) : KT R := fun fr H => opn 18 fr (fun s0 s2 s3 s4 s5 s6 s7 s8 s9 s10 s14 s21 s31 s33 s41 s52 s57 s70 => 
(qIx s0 s5 fun v19 =>
k [s0, s2, s3, s4, s5, v19, s7, s8, s9, s10, s14, s21, s31, s33, s41, s52, s57, s70] H : R))
noncomputable def r72_3 (k : KT R) : KT R := fun fr H => opn 18 fr (fun s0 s2 s3 s4 s5 s6 s7 s8 s9 s10 s14 s21 s31 s33 s41 s52 s57 s70 => 
(qLenS s0 fun v13 =>
qLss X 3 s5 v13 fun v14 =>
k [s0, s2, s3, s4, s5, s6, s7, s8, s9, s10, v14, s21, s31, s33, s41, s52, s57, s70] H : R))
noncomputable def l72_14 (k10 : KT R) : KT R → KT R := fun k11 => (r72_3 (qCd (sel 10) (fun k14 => k14) (fun _ => k10) (qBl (fun k12 => (r72_5 (r72_6 (qCd (sel 11) (fun _ => (r72_7 k10)) (fun k13 => k13) (r72_8 k12))))) (r72_4 k11))))
noncomputable def r72_2 (k : KT R) : KT R := fun fr H => opn 18 fr (fun s0 s2 s3 s4 s5 s6 s7 s8 s9 s10 s14 s21 s31 s33 s41 s52 s57 s70 => 
(k [s0, s2, s3, s4, (.int .i64 0), s6, s7, s8, s9, s10, s14, s21, s31, s33, s41, s52, s57, s70] H : R))
noncomputable def r72_1 (k : KT R) : KT R := fun fr H => opn 18 fr (fun s0 s2 s3 s4 s5 s6 s7 s8 s9 s10 s14 s21 s31 s33 s41 s52 s57 s70 => 
(k [s0, s2, (.bool true), (.bool false), s5, s6, s7, s8, s9, s10, s14, s21, s31, s33, s41, s52, s57, s70] H : R))
noncomputable def r72_0 (k : KT R) : KT R := fun fr H => opn 18 fr (fun s0 s2 s3 s4 s5 s6 s7 s8 s9 s10 s14 s21 s31 s33 s41 s52 s57 s70 => 
(k [s0, (.str []), s3, s4, s5, s6, s7, s8, s9, s10, s14, s21, s31, s33, s41, s52, s57, s70] H : R))
noncomputable def c72 (C : CallF) (l0 : List AV) (H : AH) (k : AV → AH → R) : R := opn 1 l0 (fun x0 => (qFn (fun kr => (r72_0 (r72_1 (r72_2 (qBl (fun k10 => (qLoop (l72_14 k10))) (r72_9 (qCd (sel 12) (fun _ => (r72_10 (qCd (sel 13) (fun _ => (r72_11 kr)) (fun k9 => k9) (r72_12 (r72_13 (r72_14 C (r72_15 (qBl (fun k3 => (qLoop (l72_8 C k3))) (r72_25 (qCd (sel 17) (fun k2 => (r72_26 C k2)) (fun k2 => k2) (r72_27 C kr))))))))))) (fun k1 => k1) (r72_28 C kr))))))))
(fun fr H => k (sel 1 fr) H) [x0, Aes.undef, Aes.undef, Aes.undef, Aes.undef, Aes.undef, Aes.undef, Aes.undef, Aes.undef, Aes.undef, Aes.undef, Aes.undef, Aes.undef, Aes.undef, Aes.undef, Aes.undef, Aes.undef, Aes.undef] H : R))
/- unicode/utf8.RuneCountInString -/
noncomputable def r74_4 (k : KT R) : KT R := fun fr H => opn 4 fr (fun s0 s2 s4 s6 => 
(k [s0, s2, s4, s6] H : R))
noncomputable def r74_3 (k : KT R) : KT R := fun fr H => opn 4 fr (fun s0 s2 s4 s6 => 
(qAdd X 3 s2 (.int .i64 1) fun v8 =>
k [s0, v8, s4, s6] H : R))
noncomputable def r74_2 (k : KT R) : KT R := fun fr H => opn 4 fr (fun s0 s2 s4 s6 => 
(qNext s4 H fun v5 H =>
qExt v5 0 fun v6 =>
k [s0, s2, s4, v6] H : R))
noncomputable def l74_4 (k1 : KT R) : KT R → KT R := fun k2 => (r74_2 (qCd (sel 3) (fun k4 => k4) (fun _ => k1) (qBl (fun k3 => (r74_3 k3)) k2)))
noncomputable def r74_1 (k : KT R) : KT R := fun fr H => opn 4 fr (fun s0 s2 s4 s6 => 
(qRange s0 H fun v4 H =>
k [s0, s2, v4, s6] H : R))
noncomputable def r74_0 (k : KT R) : KT R := fun fr H => opn 4 fr (fun s0 s2 s4 s6 => 
(k [s0, (.int .i64 0), s4, s6] H : R))
noncomputable def c74 (C : CallF) (l0 : List AV) (H : AH) (k : AV → AH → R) : R := opn 1 l0 (fun x0 => (qFn (fun kr => (r74_0 (r74_1 (qBl (fun k1 => (qLoop (l74_4 k1))) (r74_4 kr)))))
(fun fr H => k (sel 1 fr) H) [x0, Aes.undef, Aes.undef, Aes.undef] H : R))
/- strings.Map -/
noncomputable def r78_27 (C : CallF) (k : KT R) : KT R := fun fr H => opn 23 fr (fun s0 s1 s4 s5 s6 s7 s8 s9 s11 s12 s14 s15 s16 s28 s30 s44 s56 s65 s68 s69 s70 s76 s78 => 
(qRes (C 29 [s5] H) fun v84 H =>
k [s0, s1, v84, s5, s6, s7, s8, s9, s11, s12, s14, s15, s16, s28, s30, s44, s56, s65, s68, s69, s70, s76, s78] H : R))
noncomputable def r78_25 (C : CallF) (k : KT R) : KT R := fun fr H => opn 23 fr (fun s0 s1 s4 s5 s6 s7 s8 s9 s11 s12 s14 s15 s16 s28 s30 s44 s56 s65 s68 s69 s70 s76 s78 => 
(qConvI .u8 s12 fun v80 =>
qRes (C 31 [s5, v80] H) fun v81 H =>
k [s0, s1, s4, s5, s6, s7, s8, s9, s11, s12, s14, s15, s16, s28, s30, s44, s56, s65, s68, s69, s70, s76, s78] H : R))
noncomputable def r78_26 (C : CallF) (k : KT R) : KT R := fun fr H => opn 23 fr (fun s0 s1 s4 s5 s6 s7 s8 s9 s11 s12 s14 s15 s16 s28 s30 s44 s56 s65 s68 s69 s70 s76 s78 => 
(qRes (C 45 [s5, s12] H) fun v83 H =>
k [s0, s1, s4, s5, s6, s7, s8, s9, s11, s12, s14, s15, s16, s28, s30, s44, s56, s65, s68, s69, s70, s76, s78] H : R))
noncomputable def r78_24 (k : KT R) : KT R := fun fr H => opn 23 fr (fun s0 s1 s4 s5 s6 s7 s8 s9 s11 s12 s14 s15 s16 s28 s30 s44 s56 s65 s68 s69 s70 s76 s78 => 
(qLss X 21 s12 (.int .i32 128) fun v78 =>
k [s0, s1, s4, s5, s6, s7, s8, s9, s11, s12, s14, s15, s16, s28, s30, s44, s56, s65, s68, s69, s70, s76, v78] H : R))
noncomputable def r78_23 (k : KT R) : KT R := fun fr H => opn 23 fr (fun s0 s1 s4 s5 s6 s7 s8 s9 s11 s12 s14 s15 s16 s28 s30 s44 s56 s65 s68 s69 s70 s76 s78 => 
(qGeq X 21 s12 (.int .i32 0) fun v76 =>
k [s0, s1, s4, s5, s6, s7, s8, s9, s11, s12, s14, s15, s16, s28, s30, s44, s56, s65, s68, s69, s70, v76, s78] H : R))
noncomputable def r78_22 (C : CallF) (k : KT R) : KT R := fun fr H => opn 23 fr (fun s0 s1 s4 s5 s6 s7 s8 s9 s11 s12 s14 s15 s16 s28 s30 s44 s56 s65 s68 s69 s70 s76 s78 => 
(qCallV C s0 [s11] H fun v74 H =>
k [s0, s1, s4, s5, s6, s7, s8, s9, s11, v74, s14, s15, s16, s28, s30, s44, s56, s65, s68, s69, s70, s76, s78] H : R))
noncomputable def r78_21 (k : KT R) : KT R := fun fr H => opn 23 fr (fun s0 s1 s4 s5 s6 s7 s8 s9 s11 s12 s14 s15 s16 s28 s30 s44 s56 s65 s68 s69 s70 s76 s78 => 
(qExt s69 2 fun v71 =>
k [s0, s1, s4, s5, s6, s7, s8, s9, v71, s12, s14, s15, s16, s28, s30, s44, s56, s65, s68, s69, s70, s76, s78] H : R))
noncomputable def r78_20 (k : KT R) : KT R := fun fr H => opn 23 fr (fun s0 s1 s4 s5 s6 s7 s8 s9 s11 s12 s14 s15 s16 s28 s30 s44 s56 s65 s68 s69 s70 s76 s78 => 
(qNext s68 H fun v69 H =>
qExt v69 0 fun v70 =>
k [s0, s1, s4, s5, s6, s7, s8, s9, s11, s12, s14, s15, s16, s28, s30, s44, s56, s65, s68, v69, v70, s76, s78] H : R))
noncomputable def l78_6 (C : CallF) (k1 : KT R) : KT R → KT R := fun k2 => (r78_20 (qCd (sel 20) (fun k6 => k6) (fun _ => k1) (qBl (fun k3 => (r78_21 (r78_22 C (r78_23 (qCd (sel 21) (fun k4 => (r78_24 (qCd (sel 22) (fun k5 => (r78_25 C k5)) (fun k5 => (r78_26 C k5)) k4))) (fun k4 => k4) k3))))) k2)))
noncomputable def r78_19 (k : KT R) : KT R := fun fr H => opn 23 fr (fun s0 s1 s4 s5 s6 s7 s8 s9 s11 s12 s14 s15 s16 s28 s30 s44 s56 s65 s68 s69 s70 s76 s78 => 
(qRange s1 H fun v68 H =>
k [s0, s1, s4, s5, s6, s7, s8, s9, s11, s12, s14, s15, s16, s28, s30, s44, s56, s65, v68, s69, s70, s76, s78] H : R))
noncomputable def r78_18 (k : KT R) : KT R := fun fr H => opn 23 fr (fun s0 s1 s4 s5 s6 s7 s8 s9 s11 s12 s14 s15 s16 s28 s30 s44 s56 s65 s68 s69 s70 s76 s78 => 
(k [s0, s1, s1, s5, s6, s7, s8, s9, s11, s12, s14, s15, s16, s28, s30, s44, s56, s65, s68, s69, s70, s76, s78] H : R))
noncomputable def r78_17 (C : CallF) (k : KT R) : KT R := fun fr H => opn 23 fr (fun s0 s1 s4 s5 s6 s7 s8 s9 s11 s12 s14 s15 s16 s28 s30 s44 s56 s65 s68 s69 s70 s76 s78 => 
(qRes (C 82 [s5] H) fun v64 H =>
qEql X 3 v64 (.int .i64 0) fun v65 =>
k [s0, s1, s4, s5, s6, s7, s8, s9, s11, s12, s14, s15, s16, s28, s30, s44, s56, v65, s68, s69, s70, s76, s78] H : R))
noncomputable def r78_16 (k : KT R) : KT R := fun fr H => opn 23 fr (fun s0 s1 s4 s5 s6 s7 s8 s9 s11 s12 s14 s15 s16 s28 s30 s44 s56 s65 s68 s69 s70 s76 s78 => 
(qAdd X 3 s6 s9 fun v62 =>
qSlc Tryd.t9.desc 0 s1 (some v62) none none fun v63 =>
k [s0, v63, s4, s5, s6, s7, s8, s9, s11, s12, s14, s15, s16, s28, s30, s44, s56, s65, s68, s69, s70, s76, s78] H : R))
noncomputable def r78_15 (C : CallF) (k : KT R) : KT R := fun fr H => opn 23 fr (fun s0 s1 s4 s5 s6 s7 s8 s9 s11 s12 s14 s15 s16 s28 s30 s44 s56 s65 s68 s69 s70 s76 s78 => 
(qRes (C 45 [s5, s8] H) fun v58 H =>
k [s0, s1, s4, s5, s6, s7, s8, s9, s11, s12, s14, s15, s16, s28, s30, s44, s56, s65, s68, s69, s70, s76, s78] H : R))
noncomputable def r78_14 (k : KT R) : KT R := fun fr H => opn 23 fr (fun s0 s1 s4 s5 s6 s7 s8 s9 s11 s12 s14 s15 s16 s28 s30 s44 s56 s65 s68 s69 s70 s76 s78 => 
(qGeq X 21 s8 (.int .i32 0) fun v56 =>
k [s0, s1, s4, s5, s6, s7, s8, s9, s11, s12, s14, s15, s16, s28, s30, s44, v56, s65, s68, s69, s70, s76, s78] H : R))
noncomputable def r78_13 (C : CallF) (k : KT R) : KT R := fun fr H => opn 23 fr (fun s0 s1 s4 s5 s6 s7 s8 s9 s11 s12 s14 s15 s16 s28 s30 s44 s56 s65 s68 s69 s70 s76 s78 => 
(qSlc Tryd.t9.desc 0 s1 none (some s6) none fun v53 =>
qRes (C 27 [s5, v53] H) fun v54 H =>
k [s0, s1, s4, s5, s6, s7, s8, s9, s11, s12, s14, s15, s16, s28, s30, s44, s56, s65, s68, s69, s70, s76, s78] H : R))
noncomputable def r78_12 (C : CallF) (k : KT R) : KT R := fun fr H => opn 23 fr (fun s0 s1 s4 s5 s6 s7 s8 s9 s11 s12 s14 s15 s16 s28 s30 s44 s56 s65 s68 s69 s70 s76 s78 => 
(qLenS s1 fun v48 =>
qAdd X 3 v48 (.int .i64 4) fun v49 =>
qRes (C 55 [s5, v49] H) fun v50 H =>
k [s0, s1, s4, s5, s6, s7, s8, s9, s11, s12, s14, s15, s16, s28, s30, s44, s56, s65, s68, s69, s70, s76, s78] H : R))
noncomputable def r78_10 (k : KT R) : KT R := fun fr H => opn 23 fr (fun s0 s1 s4 s5 s6 s7 s8 s9 s11 s12 s14 s15 s16 s28 s30 s44 s56 s65 s68 s69 s70 s76 s78 => 
(qNeq X 3 s9 (.int .i64 1) fun v39 =>
qG v39 true (fun k => k s8 H) H fun v41 H =>
qG v39 true (fun k => k s7 H) H fun v42 H =>
qG v39 true (fun k => qEql X 21 v41 v42 fun v => k v H) H fun v43 H =>
qPick v39 v43 (.bool false) fun v44 =>
k [s0, s1, s4, s5, s6, s7, s8, s9, s11, s12, s14, s15, s16, s28, s30, v44, s56, s65, s68, s69, s70, s76, s78] H : R))
noncomputable def r78_9 (C : CallF) (k : KT R) : KT R := fun fr H => opn 23 fr (fun s0 s1 s4 s5 s6 s7 s8 s9 s11 s12 s14 s15 s16 s28 s30 s44 s56 s65 s68 s69 s70 s76 s78 => 
(qSlc Tryd.t9.desc 0 s1 (some s6) none none fun v34 =>
qRes (C 61 [v34] H) fun v35 H =>
qExt v35 0 fun v36 =>
qExt v35 1 fun v37 =>
k [s0, s1, s4, s5, s6, v36, s8, v37, s11, s12, s14, s15, s16, s28, s30, s44, s56, s65, s68, s69, s70, s76, s78] H : R))
noncomputable def r78_11 (C : CallF) (k : KT R) : KT R := fun fr H => opn 23 fr (fun s0 s1 s4 s5 s6 s7 s8 s9 s11 s12 s14 s15 s16 s28 s30 s44 s56 s65 s68 s69 s70 s76 s78 => 
(qRes (C 81 [s7] H) fun v46 H =>
k [s0, s1, s4, s5, s6, s7, s8, v46, s11, s12, s14, s15, s16, s28, s30, s44, s56, s65, s68, s69, s70, s76, s78] H : R))
noncomputable def r78_8 (k : KT R) : KT R := fun fr H => opn 23 fr (fun s0 s1 s4 s5 s6 s7 s8 s9 s11 s12 s14 s15 s16 s28 s30 s44 s56 s65 s68 s69 s70 s76 s78 => 
(qEql X 21 s7 (.int .i32 65533) fun v30 =>
k [s0, s1, s4, s5, s6, s7, s8, s9, s11, s12, s14, s15, s16, s28, v30, s44, s56, s65, s68, s69, s70, s76, s78] H : R))
noncomputable def r78_7 (k : KT R) : KT R := fun fr H => opn 23 fr (fun s0 s1 s4 s5 s6 s7 s8 s9 s11 s12 s14 s15 s16 s28 s30 s44 s56 s65 s68 s69 s70 s76 s78 => 
(k [s0, s1, s4, s5, s6, s7, s8, (.int .i64 0), s11, s12, s14, s15, s16, s28, s30, s44, s56, s65, s68, s69, s70, s76, s78] H : R))
noncomputable def r78_6 (k : KT R) : KT R := fun fr H => opn 23 fr (fun s0 s1 s4 s5 s6 s7 s8 s9 s11 s12 s14 s15 s16 s28 s30 s44 s56 s65 s68 s69 s70 s76 s78 => 
(qEql X 21 s8 s7 fun v24 =>
qG v24 true (fun k => k s7 H) H fun v26 H =>
qG v24 true (fun k => qNeq X 21 v26 (.int .i32 65533) fun v => k v H) H fun v27 H =>
qPick v24 v27 (.bool false) fun v28 =>
k [s0, s1, s4, s5, s6, s7, s8, s9, s11, s12, s14, s15, s16, v28, s30, s44, s56, s65, s68, s69, s70, s76, s78] H : R))
noncomputable def r78_5 (C : CallF) (k : KT R) : KT R := fun fr H => opn 23 fr (fun s0 s1 s4 s5 s6 s7 s8 s9 s11 s12 s14 s15 s16 s28 s30 s44 s56 s65 s68 s69 s70 s76 s78 => 
(qCallV C s0 [s7] H fun v21 H =>
k [s0, s1, s4, s5, s6, s7, v21, s9, s11, s12, s14, s15, s16, s28, s30, s44, s56, s65, s68, s69, s70, s76, s78] H : R))
noncomputable def r78_4 (k : KT R) : KT R := fun fr H => opn 23 fr (fun s0 s1 s4 s5 s6 s7 s8 s9 s11 s12 s14 s15 s16 s28 s30 s44 s56 s65 s68 s69 s70 s76 s78 => 
(qExt s15 1 fun v17 =>
qExt s15 2 fun v18 =>
k [s0, s1, s4, s5, v17, v18, s8, s9, s11, s12, s14, s15, s16, s28, s30, s44, s56, s65, s68, s69, s70, s76, s78] H : R))
noncomputable def r78_3 (k : KT R) : KT R := fun fr H => opn 23 fr (fun s0 s1 s4 s5 s6 s7 s8 s9 s11 s12 s14 s15 s16 s28 s30 s44 s56 s65 s68 s69 s70 s76 s78 => 
(qNext s14 H fun v15 H =>
qExt v15 0 fun v16 =>
k [s0, s1, s4, s5, s6, s7, s8, s9, s11, s12, s14, v15, v16, s28, s30, s44, s56, s65, s68, s69, s70, s76, s78] H : R))
noncomputable def l78_15 (C : CallF) (k8 : KT R) : KT R → KT R := fun k9 => (r78_3 (qCd (sel 12) (fun k15 => k15) (fun _ => k8) (qBl (fun k10 => (r78_4 (r78_5 C (r78_6 (qCd (sel 13) (fun _ => k10) (fun k14 => k14) (r78_7 (r78_8 (qCd (sel 14) (fun k12 => (r78_9 C (r78_10 (qCd (sel 15) (fun _ => k10) (fun k13 => k13) k12)))) (fun k12 => (r78_11 C k12)) (r78_12 C (r78_13 C (r78_14 (qCd (sel 16) (fun k11 => (r78_15 C k11)) (fun k11 => k11) (r78_16 k8))))))))))))) k9)))
noncomputable def r78_2 (k : KT R) : KT R := fun fr H => opn 23 fr (fun s0 s1 s4 s5 s6 s7 s8 s9 s11 s12 s14 s15 s16 s28 s30 s44 s56 s65 s68 s69 s70 s76 s78 => 
(qRange s1 H fun v14 H =>
k [s0, s1, s4, s5, s6, s7, s8, s9, s11, s12, v14, s15, s16, s28, s30, s44, s56, s65, s68, s69, s70, s76, s78] H : R))
noncomputable def r78_1 (k : KT R) : KT R := fun fr H => opn 23 fr (fun s0 s1 s4 s5 s6 s7 s8 s9 s11 s12 s14 s15 s16 s28 s30 s44 s56 s65 s68 s69 s70 s76 s78 => 
(qNew (.obj 54 0 z54) .ptr H fun v5 H =>
k [s0, s1, s4, v5, s6, s7, s8, s9, s11, s12, s14, s15, s16, s28, s30, s44, s56, s65, s68, s69, s70, s76, s78] H : R))
noncomputable def r78_0 (k : KT R) : KT R := fun fr H => opn 23 fr (fun s0 s1 s4 s5 s6 s7 s8 s9 s11 s12 s14 s15 s16 s28 s30 s44 s56 s65 s68 s69 s70 s76 s78 => 
(k [s0, s1, (.str []), s5, s6, s7, s8, s9, s11, s12, s14, s15, s16, s28, s30, s44, s56, s65, s68, s69, s70, s76, s78] H : R))
noncomputable def c78 (C : CallF) (l0 : List AV) (H : AH) (k : AV → AH → R) : R := opn 2 l0 (fun x0 x1 => (qFn (fun kr => (r78_0 (r78_1 (r78_2 (qBl (fun k8 => (qLoop (l78_15 C k8))) (r78_17 C (qCd (sel 17) (fun _ => (r78_18 kr)) (fun k7 => k7) (r78_19 (qBl (fun k1 => (qLoop (l78_6 C k1))) (r78_27 C kr))))))))))
(fun fr H => k (sel 2 fr) H) [x0, x1, Aes.undef, Aes.undef, Aes.undef, Aes.undef, Aes.undef, Aes.undef, Aes.undef, Aes.undef, Aes.undef, Aes.undef, Aes.undef, Aes.undef, Aes.undef, Aes.undef, Aes.undef, Aes.undef, Aes.undef, Aes.undef, Aes.undef, Aes.undef, Aes.undef] H : R))
/- unicode.ToLower -/
noncomputable def r79_5 (C : CallF) (k : KT R) : KT R := fun fr H => opn 4 fr (fun s0 s2 s4 s10 => 
(qRes (C 83 [(.int .i64 1), s0] H) fun v15 H =>
k [s0, v15, s4, s10] H : R))
noncomputable def r79_4 (k : KT R) : KT R := fun fr H => opn 4 fr (fun s0 s2 s4 s10 => 
(k [s0, s0, s4, s10] H : R))
noncomputable def r79_3 (k : KT R) : KT R := fun fr H => opn 4 fr (fun s0 s2 s4 s10 => 
(qAdd X 21 s0 (.int .i32 32) fun v12 =>
k [v12, s2, s4, s10] H : R))
noncomputable def r79_2 (k : KT R) : KT R := fun fr H => opn 4 fr (fun s0 s2 s4 s10 => 
(qLeq X 21 (.int .i32 65) s0 fun v6 =>
qG v6 true (fun k => k s0 H) H fun v8 H =>
qG v6 true (fun k => qLeq X 21 v8 (.int .i32 90) fun v => k v H) H fun v9 H =>
qPick v6 v9 (.bool false) fun v10 =>
k [s0, s2, s4, v10] H : R))
noncomputable def r79_1 (k : KT R) : KT R := fun fr H => opn 4 fr (fun s0 s2 s4 s10 => 
(qLeq X 21 s0 (.int .i32 127) fun v4 =>
k [s0, s2, v4, s10] H : R))
noncomputable def r79_0 (k : KT R) : KT R := fun fr H => opn 4 fr (fun s0 s2 s4 s10 => 
(k [s0, (.int .i32 0), s4, s10] H : R))
noncomputable def c79 (C : CallF) (l0 : List AV) (H : AH) (k : AV → AH → R) : R := opn 1 l0 (fun x0 => (qFn (fun kr => (r79_0 (r79_1 (qCd (sel 2) (fun _ => (r79_2 (qCd (sel 3) (fun k2 => (r79_3 k2)) (fun k2 => k2) (r79_4 kr)))) (fun k1 => k1) (r79_5 C kr)))))
(fun fr H => k (sel 1 fr) H) [x0, Aes.undef, Aes.undef, Aes.undef] H : R))
/- unicode/utf8.RuneLen -/
noncomputable def r81_13 (k : KT R) : KT R := fun fr H => opn 8 fr (fun s0 s2 s3 s6 s9 s12 s19 s22 => 
(k [s0, (.int .i64 (-1)), s3, s6, s9, s12, s19, s22] H : R))
noncomputable def r81_2 (k : KT R) : KT R := fun fr H => opn 8 fr (fun s0 s2 s3 s6 s9 s12 s19 s22 => 
(k [s0, (.int .i64 (-1)), s3, s6, s9, s12, s19, s22] H : R))
noncomputable def r81_4 (k : KT R) : KT R := fun fr H => opn 8 fr (fun s0 s2 s3 s6 s9 s12 s19 s22 => 
(k [s0, (.int .i64 1), s3, s6, s9, s12, s19, s22] H : R))
noncomputable def r81_6 (k : KT R) : KT R := fun fr H => opn 8 fr (fun s0 s2 s3 s6 s9 s12 s19 s22 => 
(k [s0, (.int .i64 2), s3, s6, s9, s12, s19, s22] H : R))
noncomputable def r81_8 (k : KT R) : KT R := fun fr H => opn 8 fr (fun s0 s2 s3 s6 s9 s12 s19 s22 => 
(k [s0, (.int .i64 (-1)), s3, s6, s9, s12, s19, s22] H : R))
noncomputable def r81_10 (k : KT R) : KT R := fun fr H => opn 8 fr (fun s0 s2 s3 s6 s9 s12 s19 s22 => 
(k [s0, (.int .i64 3), s3, s6, s9, s12, s19, s22] H : R))
noncomputable def r81_12 (k : KT R) : KT R := fun fr H => opn 8 fr (fun s0 s2 s3 s6 s9 s12 s19 s22 => 
(k [s0, (.int .i64 4), s3, s6, s9, s12, s19, s22] H : R))
noncomputable def r81_11 (k : KT R) : KT R := fun fr H => opn 8 fr (fun s0 s2 s3 s6 s9 s12 s19 s22 => 
(qLeq X 21 s0 (.int .i32 1114111) fun v24 =>
k [s0, s2, s3, s6, s9, s12, s19, v24] H : R))
noncomputable def r81_9 (k : KT R) : KT R := fun fr H => opn 8 fr (fun s0 s2 s3 s6 s9 s12 s19 s22 => 
(qLeq X 21 s0 (.int .i32 65535) fun v21 =>
k [s0, s2, s3, s6, s9, s12, v21, s22] H : R))
noncomputable def r81_7 (k : KT R) : KT R := fun fr H => opn 8 fr (fun s0 s2 s3 s6 s9 s12 s19 s22 => 
(qLeq X 21 (.int .i32 55296) s0 fun v14 =>
qG v14 true (fun k => k s0 H) H fun v16 H =>
qG v14 true (fun k => qLeq X 21 v16 (.int .i32 57343) fun v => k v H) H fun v17 H =>
qPick v14 v17 (.bool false) fun v18 =>
k [s0, s2, s3, s6, s9, v18, s19, s22] H : R))
noncomputable def r81_5 (k : KT R) : KT R := fun fr H => opn 8 fr (fun s0 s2 s3 s6 s9 s12 s19 s22 => 
(qLeq X 21 s0 (.int .i32 2047) fun v11 =>
k [s0, s2, s3, s6, v11, s12, s19, s22] H : R))
noncomputable def r81_3 (k : KT R) : KT R := fun fr H => opn 8 fr (fun s0 s2 s3 s6 s9 s12 s19 s22 => 
(qLeq X 21 s0 (.int .i32 127) fun v8 =>
k [s0, s2, s3, v8, s9, s12, s19, s22] H : R))
noncomputable def r81_1 (k : KT R) : KT R := fun fr H => opn 8 fr (fun s0 s2 s3 s6 s9 s12 s19 s22 => 
(qLss X 21 s0 (.int .i32 0) fun v5 =>
k [s0, s2, v5, s6, s9, s12, s19, s22] H : R))
noncomputable def r81_0 (k : KT R) : KT R := fun fr H => opn 8 fr (fun s0 s2 s3 s6 s9 s12 s19 s22 => 
(k [s0, (.int .i64 0), s3, s6, s9, s12, s19, s22] H : R))
noncomputable def c81 (C : CallF) (l0 : List AV) (H : AH) (k : AV → AH → R) : R := opn 1 l0 (fun x0 => (qFn (fun kr => (r81_0 (qBl (fun k1 => (r81_1 (qCd (sel 2) (fun _ => (r81_2 kr)) (fun k2 => (r81_3 (qCd (sel 3) (fun _ => (r81_4 kr)) (fun k3 => (r81_5 (qCd (sel 4) (fun _ => (r81_6 kr)) (fun k4 => (r81_7 (qCd (sel 5) (fun _ => (r81_8 kr)) (fun k5 => (r81_9 (qCd (sel 6) (fun _ => (r81_10 kr)) (fun k6 => (r81_11 (qCd (sel 7) (fun _ => (r81_12 kr)) (fun k7 => k7) k6))) k5))) k4))) k3))) k2))) k1))) (r81_13 kr))))
(fun fr H => k (sel 1 fr) H) [x0, Aes.undef, Aes.undef, Aes.undef, Aes.undef, Aes.undef, Aes.undef, Aes.undef] H : R))
end
theorem e2 {R : Type} [Mon R] : hFn (R := R) X 2 Tryd.f2 0 [] = c2 := by kernel_rfl
theorem xf2 : X.fn 2 = some Tryd.f2 := by kernel_rfl
theorem e3 {R : Type} [Mon R] : hFn (R := R) X 3 Tryd.f3 1 [0, 2, 3, 4, 5, 6, 7, 8, 9, 11, 12, 14, 22] = c3 := by kernel_rfl
theorem xf3 : X.fn 3 = some Tryd.f3 := by kernel_rfl
theorem e4 {R : Type} [Mon R] : hFn (R := R) X 4 Tryd.f4 2 [0, 1, 4, 5, 6, 7, 8, 9, 10, 11, 16] = c4 := by kernel_rfl
theorem xf4 : X.fn 4 = some Tryd.f4 := by kernel_rfl
theorem e5 {R : Type} [Mon R] : hFn (R := R) X 5 Tryd.f5 2 [0, 1, 4, 5, 6, 7, 8, 9, 10, 11, 12, 23, 32, 46] = c5 := by kernel_rfl
theorem xf5 : X.fn 5 = some Tryd.f5 := by kernel_rfl
theorem e6 {R : Type} [Mon R] : hFn (R := R) X 6 Tryd.f6 2 [0, 1, 4, 5, 6, 7, 9, 10, 12, 15, 20, 32] = c6 := by kernel_rfl
theorem xf6 : X.fn 6 = some Tryd.f6 := by kernel_rfl
theorem e7 {R : Type} [Mon R] : hFn (R := R) X 7 Tryd.f7 2 [0, 1, 4, 5, 10] = c7 := by kernel_rfl
theorem xf7 : X.fn 7 = some Tryd.f7 := by kernel_rfl
theorem e8 {R : Type} [Mon R] : hFn (R := R) X 8 Tryd.f8 1 [0, 2, 3, 4, 5, 6, 7, 8, 9, 12, 16, 20, 28, 43] = c8 := by kernel_rfl
theorem xf8 : X.fn 8 = some Tryd.f8 := by kernel_rfl
theorem e9 {R : Type} [Mon R] : hFn (R := R) X 9 Tryd.f9 0 [0, 1, 2, 3] = c9 := by kernel_rfl
theorem xf9 : X.fn 9 = some Tryd.f9 := by kernel_rfl
theorem e10 {R : Type} [Mon R] : hFn (R := R) X 10 Tryd.f10 2 [0, 1, 4] = c10 := by kernel_rfl
theorem xf10 : X.fn 10 = some Tryd.f10 := by kernel_rfl
theorem e11 {R : Type} [Mon R] : hFn (R := R) X 11 Tryd.f11 2 [0, 1, 4, 5, 16] = c11 := by kernel_rfl
theorem xf11 : X.fn 11 = some Tryd.f11 := by kernel_rfl
theorem e12 {R : Type} [Mon R] : hFn (R := R) X 12 Tryd.f12 1 [0, 2] = c12 := by kernel_rfl
theorem xf12 : X.fn 12 = some Tryd.f12 := by kernel_rfl
theorem e13 {R : Type} [Mon R] : hFn (R := R) X 13 Tryd.f13 1 [0, 2, 3, 4, 5, 6, 7, 8, 9, 10, 11, 12, 15, 31, 35, 47, 53, 60, 71, 82, 86] = c13 := by kernel_rfl
theorem xf13 : X.fn 13 = some Tryd.f13 := by kernel_rfl
theorem e14 {R : Type} [Mon R] : hFn (R := R) X 14 Tryd.f14 2 [0, 1, 4] = c14 := by kernel_rfl
theorem xf14 : X.fn 14 = some Tryd.f14 := by kernel_rfl
theorem e15 {R : Type} [Mon R] : hFn (R := R) X 15 Tryd.f15 1 [0, 2] = c15 := by kernel_rfl
theorem xf15 : X.fn 15 = some Tryd.f15 := by kernel_rfl
theorem e16 {R : Type} [Mon R] : hFn (R := R) X 16 Tryd.f16 1 [0, 2] = c16 := by kernel_rfl
theorem xf16 : X.fn 16 = some Tryd.f16 := by kernel_rfl
theorem e17 {R : Type} [Mon R] : hFn (R := R) X 17 Tryd.f17 1 [0, 2] = c17 := by kernel_rfl
theorem xf17 : X.fn 17 = some Tryd.f17 := by kernel_rfl
theorem e18 {R : Type} [Mon R] : hFn (R := R) X 18 Tryd.f18 1 [0, 2, 3, 4, 5, 6, 7, 8, 11, 26, 37, 41, 52, 62, 68] = c18 := by kernel_rfl
theorem xf18 : X.fn 18 = some Tryd.f18 := by kernel_rfl
theorem e19 {R : Type} [Mon R] : hFn (R := R) X 19 Tryd.f19 2 [0, 1, 4] = c19 := by kernel_rfl
theorem xf19 : X.fn 19 = some Tryd.f19 := by kernel_rfl
theorem e20 {R : Type} [Mon R] : hFn (R := R) X 20 Tryd.f20 1 [0, 2, 3, 4, 5, 6, 10, 20, 26, 31] = c20 := by kernel_rfl
theorem xf20 : X.fn 20 = some Tryd.f20 := by kernel_rfl
theorem e21 {R : Type} [Mon R] : hFn (R := R) X 21 Tryd.f21 1 [0, 2, 3, 4, 5, 6, 16, 20, 34, 44] = c21 := by kernel_rfl
theorem xf21 : X.fn 21 = some Tryd.f21 := by kernel_rfl
theorem e23 {R : Type} [Mon R] : hFn (R := R) X 23 Tryd.f23 2 [0, 1, 4] = c23 := by kernel_rfl
theorem xf23 : X.fn 23 = some Tryd.f23 := by kernel_rfl
theorem e24 {R : Type} [Mon R] : hFn (R := R) X 24 Tryd.f24 1 [0, 2] = c24 := by kernel_rfl
theorem xf24 : X.fn 24 = some Tryd.f24 := by kernel_rfl
theorem e25 {R : Type} [Mon R] : hFn (R := R) X 25 Tryd.f25 2 [0, 1, 4, 5] = c25 := by kernel_rfl
theorem xf25 : X.fn 25 = some Tryd.f25 := by kernel_rfl
theorem e26 {R : Type} [Mon R] : hFn (R := R) X 26 Tryd.f26 2 [0, 1, 4] = c26 := by kernel_rfl
theorem xf26 : X.fn 26 = some Tryd.f26 := by kernel_rfl
theorem e27 {R : Type} [Mon R] : hFn (R := R) X 27 Tryd.f27 2 [0, 1, 4, 5] = c27 := by kernel_rfl
theorem xf27 : X.fn 27 = some Tryd.f27 := by kernel_rfl
theorem e28 {R : Type} [Mon R] : hFn (R := R) X 28 Tryd.f28 1 [0, 2, 4, 6, 7, 8, 23] = c28 := by kernel_rfl
theorem xf28 : X.fn 28 = some Tryd.f28 := by kernel_rfl
theorem e30 {R : Type} [Mon R] : hFn (R := R) X 30 Tryd.f30 1 [0, 2, 3, 4, 6, 7, 8, 9, 15, 16, 17, 18, 35, 40, 41, 42, 73, 88] = c30 := by kernel_rfl
theorem xf30 : X.fn 30 = some Tryd.f30 := by kernel_rfl
theorem e31 {R : Type} [Mon R] : hFn (R := R) X 31 Tryd.f31 2 [0, 1, 4] = c31 := by kernel_rfl
theorem xf31 : X.fn 31 = some Tryd.f31 := by kernel_rfl
theorem e32 {R : Type} [Mon R] : hFn (R := R) X 32 Tryd.f32 2 [0, 1, 4] = c32 := by kernel_rfl
theorem xf32 : X.fn 32 = some Tryd.f32 := by kernel_rfl
theorem e33 {R : Type} [Mon R] : hFn (R := R) X 33 Tryd.f33 1 [0, 2, 3, 4, 5, 6, 7, 8, 9, 10, 31, 38, 39, 40, 49, 55, 59, 66, 71, 77, 92] = c33 := by kernel_rfl
theorem xf33 : X.fn 33 = some Tryd.f33 := by kernel_rfl
theorem e34 {R : Type} [Mon R] : hFn (R := R) X 34 Tryd.f34 2 [0, 1, 4, 7] = c34 := by kernel_rfl
theorem xf34 : X.fn 34 = some Tryd.f34 := by kernel_rfl
theorem e35 {R : Type} [Mon R] : hFn (R := R) X 35 Tryd.f35 2 [0, 1, 4, 5, 6, 12, 21, 31] = c35 := by kernel_rfl
theorem xf35 : X.fn 35 = some Tryd.f35 := by kernel_rfl
theorem e36 {R : Type} [Mon R] : hFn (R := R) X 36 Tryd.f36 2 [0, 1, 4, 5, 9] = c36 := by kernel_rfl
theorem xf36 : X.fn 36 = some Tryd.f36 := by kernel_rfl
theorem e38 {R : Type} [Mon R] : hFn (R := R) X 38 Tryd.f38 1 [0, 2] = c38 := by kernel_rfl
theorem xf38 : X.fn 38 = some Tryd.f38 := by kernel_rfl
theorem e39 {R : Type} [Mon R] : hFn (R := R) X 39 Tryd.f39 2 [0, 1, 4] = c39 := by kernel_rfl
theorem xf39 : X.fn 39 = some Tryd.f39 := by kernel_rfl
theorem e40 {R : Type} [Mon R] : hFn (R := R) X 40 Tryd.f40 3 [0, 1, 2, 6] = c40 := by kernel_rfl
theorem xf40 : X.fn 40 = some Tryd.f40 := by kernel_rfl
theorem e41 {R : Type} [Mon R] : hFn (R := R) X 41 Tryd.f41 1 [0, 2] = c41 := by kernel_rfl
theorem xf41 : X.fn 41 = some Tryd.f41 := by kernel_rfl
theorem e42 {R : Type} [Mon R] : hFn (R := R) X 42 Tryd.f42 1 [0, 2] = c42 := by kernel_rfl
theorem xf42 : X.fn 42 = some Tryd.f42 := by kernel_rfl
theorem e44 {R : Type} [Mon R] : hFn (R := R) X 44 Tryd.f44 2 [0, 1, 4, 5, 6, 7, 8, 9, 10, 12, 15, 20, 26, 32, 36, 42, 45, 46, 47, 53] = c44 := by kernel_rfl
theorem xf44 : X.fn 44 = some Tryd.f44 := by kernel_rfl
theorem e45 {R : Type} [Mon R] : hFn (R := R) X 45 Tryd.f45 2 [0, 1, 4, 5, 6] = c45 := by kernel_rfl
theorem xf45 : X.fn 45 = some Tryd.f45 := by kernel_rfl
theorem e46 {R : Type} [Mon R] : hFn (R := R) X 46 Tryd.f46 1 [0, 2, 3, 4, 5, 13, 22, 31] = c46 := by kernel_rfl
theorem xf46 : X.fn 46 = some Tryd.f46 := by kernel_rfl
theorem e47 {R : Type} [Mon R] : hFn (R := R) X 47 Tryd.f47 2 [0, 1, 4, 13] = c47 := by kernel_rfl
theorem xf47 : X.fn 47 = some Tryd.f47 := by kernel_rfl
theorem e48 {R : Type} [Mon R] : hFn (R := R) X 48 Tryd.f48 1 [0, 2, 3, 4, 5, 9, 16] = c48 := by kernel_rfl
theorem xf48 : X.fn 48 = some Tryd.f48 := by kernel_rfl
theorem e49 {R : Type} [Mon R] : hFn (R := R) X 49 Tryd.f49 2 [0, 1, 4, 7, 12] = c49 := by kernel_rfl
theorem xf49 : X.fn 49 = some Tryd.f49 := by kernel_rfl
theorem e50 {R : Type} [Mon R] : hFn (R := R) X 50 Tryd.f50 2 [0, 1, 4, 5, 6, 9, 18] = c50 := by kernel_rfl
theorem xf50 : X.fn 50 = some Tryd.f50 := by kernel_rfl
theorem e53 {R : Type} [Mon R] : hFn (R := R) X 53 Tryd.f53 4 [0, 1, 2, 3, 8, 9, 10, 11, 13, 15, 20, 36, 41] = c53 := by kernel_rfl
theorem xf53 : X.fn 53 = some Tryd.f53 := by kernel_rfl
theorem e54 {R : Type} [Mon R] : hFn (R := R) X 54 Tryd.f54 4 [0, 1, 2, 3, 8, 9, 10, 11, 12, 14, 15, 22, 28, 36, 51, 52, 53, 54, 77, 78, 79] = c54 := by kernel_rfl
theorem xf54 : X.fn 54 = some Tryd.f54 := by kernel_rfl
theorem e56 {R : Type} [Mon R] : hFn (R := R) X 56 Tryd.f56 2 [0, 1, 4, 5, 6, 7, 8, 9, 10, 11, 12, 13, 14, 15, 16, 26, 33, 43, 51, 64, 98, 108, 124, 139, 143, 156, 160, 171, 175, 176, 177, 181, 183] = c56 := by kernel_rfl
theorem xf56 : X.fn 56 = some Tryd.f56 := by kernel_rfl
theorem e57 {R : Type} [Mon R] : hFn (R := R) X 57 Tryd.f57 1 [0, 2] = c57 := by kernel_rfl
theorem xf57 : X.fn 57 = some Tryd.f57 := by kernel_rfl
theorem e58 {R : Type} [Mon R] : hFn (R := R) X 58 Tryd.f58 2 [0, 1, 4] = c58 := by kernel_rfl
theorem xf58 : X.fn 58 = some Tryd.f58 := by kernel_rfl
theorem e59 {R : Type} [Mon R] : hFn (R := R) X 59 Tryd.f59 2 [0, 1, 4, 7] = c59 := by kernel_rfl
theorem xf59 : X.fn 59 = some Tryd.f59 := by kernel_rfl
theorem e60 {R : Type} [Mon R] : hFn (R := R) X 60 Tryd.f60 1 [0, 2, 3, 5, 6, 9, 13, 14, 15, 20] = c60 := by kernel_rfl
theorem xf60 : X.fn 60 = some Tryd.f60 := by kernel_rfl
theorem e61 {R : Type} [Mon R] : hFn (R := R) X 61 Tryd.f61 1 [0, 2, 3, 10] = c61 := by kernel_rfl
theorem xf61 : X.fn 61 = some Tryd.f61 := by kernel_rfl
theorem e62 {R : Type} [Mon R] : hFn (R := R) X 62 Tryd.f62 2 [0, 1, 4] = c62 := by kernel_rfl
theorem xf62 : X.fn 62 = some Tryd.f62 := by kernel_rfl
theorem e64 {R : Type} [Mon R] : hFn (R := R) X 64 Tryd.f64 2 [0, 1, 4, 5, 6, 7, 9, 18, 25, 43] = c64 := by kernel_rfl
theorem xf64 : X.fn 64 = some Tryd.f64 := by kernel_rfl
theorem e65 {R : Type} [Mon R] : hFn (R := R) X 65 Tryd.f65 2 [0, 1, 4, 5, 6, 9, 15, 24] = c65 := by kernel_rfl
theorem xf65 : X.fn 65 = some Tryd.f65 := by kernel_rfl
theorem e66 {R : Type} [Mon R] : hFn (R := R) X 66 Tryd.f66 2 [0, 1, 4] = c66 := by kernel_rfl
theorem xf66 : X.fn 66 = some Tryd.f66 := by kernel_rfl
theorem e68 {R : Type} [Mon R] : hFn (R := R) X 68 Tryd.f68 1 [0, 2, 3, 10] = c68 := by kernel_rfl
theorem xf68 : X.fn 68 = some Tryd.f68 := by kernel_rfl
theorem e69 {R : Type} [Mon R] : hFn (R := R) X 69 Tryd.f69 1 [0, 2] = c69 := by kernel_rfl
theorem xf69 : X.fn 69 = some Tryd.f69 := by kernel_rfl
theorem e71 {R : Type} [Mon R] : hFn (R := R) X 71 Tryd.f71 2 [0, 1, 4, 5, 11, 25, 50] = c71 := by kernel_rfl
theorem xf71 : X.fn 71 = some Tryd.f71 := by kernel_rfl
theorem e72 {R : Type} [Mon R] : hFn (R := R) X 72 Tryd.f72 1 [0, 2, 3, 4, 5, 6, 7, 8, 9, 10, 14, 21, 31, 33, 41, 52, 57, 70] = c72 := by kernel_rfl
theorem xf72 : X.fn 72 = some Tryd.f72 := by kernel_rfl
theorem e74 {R : Type} [Mon R] : hFn (R := R) X 74 Tryd.f74 1 [0, 2, 4, 6] = c74 := by kernel_rfl
theorem xf74 : X.fn 74 = some Tryd.f74 := by kernel_rfl
theorem e78 {R : Type} [Mon R] : hFn (R := R) X 78 Tryd.f78 2 [0, 1, 4, 5, 6, 7, 8, 9, 11, 12, 14, 15, 16, 28, 30, 44, 56, 65, 68, 69, 70, 76, 78] = c78 := by kernel_rfl
theorem xf78 : X.fn 78 = some Tryd.f78 := by kernel_rfl
theorem e79 {R : Type} [Mon R] : hFn (R := R) X 79 Tryd.f79 1 [0, 2, 4, 10] = c79 := by kernel_rfl
theorem xf79 : X.fn 79 = some Tryd.f79 := by kernel_rfl
theorem e81 {R : Type} [Mon R] : hFn (R := R) X 81 Tryd.f81 1 [0, 2, 3, 6, 9, 12, 19, 22] = c81 := by kernel_rfl
theorem xf81 : X.fn 81 = some Tryd.f81 := by kernel_rfl
end T
