import Derived.Test.YtnmljkjdflfdoaaDoorTabRd
import Derived.Test.YtnmljkjdflfdoaaDoorS8
set_option linter.all false
set_option maxRecDepth 100000
set_option linter.unusedVariables false
open Go Go.Aes Go.Proofs
namespace T
noncomputable def z5 : List AV := [.int .u8 0]
noncomputable def z9 : List AV := [.str []]
noncomputable def z26 : List AV := [.int .i64 0, .str [], .sl [] .nil, .sl [] .nil]
noncomputable def z36 : List AV := [.str [], .str [], .str [], .str []]
noncomputable def z42 : List AV := [.str [], .str [], .str [], .str [], .str [], .str [], .str [], .str [], .str [], .str [], .str [], .str []]
noncomputable def z43 : List AV := [.int .i64 0, .int .i64 0, .int .i64 0, .int .i64 0, .int .i64 0, .int .i64 0]
noncomputable def z47 : List AV := [.str [], .bool false, .bool false]
noncomputable def z51 : List AV := [.str [], .int .i64 0, .bool false, .bool false, .bool false]
noncomputable def z53 : List AV := [.str [], .str []]
noncomputable def z54 : List AV := [.str [], .str [], .str [], .str [], .str []]
noncomputable def z57 : List AV := []
noncomputable def z66 : List AV := [.map none]
noncomputable def z81 : List AV := [.bool false, .bool false, .bool false, .bool false, .bool false, .bool false, .bool false, .bool false, .bool false, .bool false, .bool false, .bool false, .bool false, .bool false, .bool false, .bool false, .bool false, .bool false, .bool false, .bool false, .bool false, .bool false, .bool false, .bool false, .bool false, .bool false, .bool false, .bool false, .bool false, .bool false, .bool false, .bool false, .bool false, .bool false, .bool false, .bool false, .bool false, .bool false, .bool false, .bool false, .bool false, .bool false, .bool false, .bool false, .bool false, .bool false, .bool false, .bool false, .bool false, .bool false, .bool false, .bool false, .bool false, .bool false, .bool false, .bool false, .bool false, .bool false, .bool false, .bool false, .bool false, .bool false, .bool false, .bool false, .bool false, .bool false, .bool false, .bool false, .bool false, .bool false, .bool false, .bool false, .bool false, .bool false, .bool false, .bool false, .bool false, .bool false, .bool false, .bool false, .bool false, .bool false, .bool false, .bool false, .bool false, .bool false, .bool false, .bool false, .bool false, .bool false, .bool false, .bool false, .bool false, .bool false, .bool false, .bool false, .bool false, .bool false, .bool false, .bool false, .bool false, .bool false, .bool false, .bool false, .bool false, .bool false, .bool false, .bool false, .bool false, .bool false, .bool false, .bool false, .bool false, .bool false, .bool false, .bool false, .bool false, .bool false, .bool false, .bool false, .bool false, .bool false, .bool false, .bool false, .bool false, .bool false, .bool false, .bool false, .bool false, .bool false, .bool false, .bool false, .bool false, .bool false, .bool false, .bool false, .bool false, .bool false, .bool false, .bool false, .bool false, .bool false, .bool false, .bool false, .bool false, .bool false, .bool false, .bool false, .bool false, .bool false, .bool false, .bool false, .bool false, .bool false, .bool false, .bool false, .bool false, .bool false, .bool false, .bool false, .bool false, .bool false, .bool false, .bool false, .bool false, .bool false, .bool false, .bool false, .bool false, .bool false, .bool false, .bool false, .bool false, .bool false, .bool false, .bool false, .bool false, .bool false, .bool false, .bool false, .bool false, .bool false, .bool false, .bool false, .bool false, .bool false, .bool false, .bool false, .bool false, .bool false, .bool false, .bool false, .bool false, .bool false, .bool false, .bool false, .bool false, .bool false, .bool false, .bool false, .bool false, .bool false, .bool false, .bool false, .bool false, .bool false, .bool false, .bool false, .bool false, .bool false, .bool false, .bool false, .bool false, .bool false, .bool false, .bool false, .bool false, .bool false, .bool false, .bool false, .bool false, .bool false, .bool false, .bool false, .bool false, .bool false, .bool false, .bool false, .bool false, .bool false, .bool false, .bool false, .bool false, .bool false, .bool false, .bool false, .bool false, .bool false, .bool false, .bool false, .bool false, .bool false, .bool false, .bool false, .bool false, .bool false, .bool false, .bool false, .bool false, .bool false, .bool false, .bool false, .bool false, .bool false, .bool false, .bool false]
noncomputable def z93 : List AV := [.nilp, .sl [] .nil]
noncomputable def z111 : List AV := [.int .u8 0, .int .u8 0]
noncomputable def z112 : List AV := [.int .u8 0, .int .u8 0, .int .u8 0, .int .u8 0, .int .u8 0, .int .u8 0, .int .u8 0, .int .u8 0, .int .u8 0, .int .u8 0, .int .u8 0, .int .u8 0, .int .u8 0, .int .u8 0, .int .u8 0, .int .u8 0, .int .u8 0, .int .u8 0, .int .u8 0, .int .u8 0, .int .u8 0, .int .u8 0, .int .u8 0, .int .u8 0, .int .u8 0, .int .u8 0, .int .u8 0, .int .u8 0, .int .u8 0, .int .u8 0, .int .u8 0, .int .u8 0]
section
variable {R : Type} [Mon R]
/- refectory/refectorylaw03.JreadDeep -/
noncomputable def r5_25 (C : CallF) (k : KT R) : KT R := fun fr H => opn 19 fr (fun s0 s1 s4 s5 s6 s7 s8 s10 s11 s13 s14 s15 s16 s17 s19 s25 s32 s58 s67 => 
(qEql X 27 s10 (.int .i64 0) fun v82 =>
qLeq X 3 s5 (.int .i64 12) fun v84 =>
qEql X 4 v82 v84 fun v85 =>
qG v85 true (fun k => k s10 H) H fun v87 H =>
qG v85 true (fun k => qEql X 27 v87 (.int .i64 0) fun v => k v H) H fun v88 H =>
qG v85 true (fun k => k v88 H) H fun v89 H =>
qG v89 false (fun k => k s10 H) H fun v90 H =>
qG v89 false (fun k => qEql X 27 v90 (.int .i64 4) fun v => k v H) H fun v91 H =>
qG v85 true (fun k => qPick v89 (.bool true) v91 fun v => k v H) H fun v92 H =>
qPick v85 v92 (.bool false) fun v93 =>
qG v93 true (fun k => k s13 H) H fun v95 H =>
qG v93 true (fun k => k s14 H) H fun v96 H =>
qG v93 true (fun k => qEql X 27 v95 v96 fun v => k v H) H fun v97 H =>
qPick v93 v97 (.bool false) fun v98 =>
qG v98 true (fun k => k s19 H) H fun v100 H =>
qG v98 true (fun k => qEql X 27 v100 (.int .i64 0) fun v => k v H) H fun v101 H =>
qG v98 true (fun k => k s15 H) H fun v102 H =>
qG v98 true (fun k => qLeq X 3 v102 (.int .i64 4000) fun v => k v H) H fun v103 H =>
qG v98 true (fun k => qEql X 4 v101 v103 fun v => k v H) H fun v104 H =>
qPick v98 v104 (.bool false) fun v105 =>
qG v105 true (fun k => k s19 H) H fun v107 H =>
qG v105 true (fun k => qEql X 27 v107 (.int .i64 0) fun v => k v H) H fun v108 H =>
qG v105 true (fun k => k v108 H) H fun v109 H =>
qG v109 false (fun k => k s19 H) H fun v110 H =>
qG v109 false (fun k => qEql X 27 v110 (.int .i64 3) fun v => k v H) H fun v111 H =>
qG v105 true (fun k => qPick v109 (.bool true) v111 fun v => k v H) H fun v112 H =>
qPick v105 v112 (.bool false) fun v113 =>
qG v113 true (fun k => qRes (C 7 [] H) k) H fun v115 H =>
qPick v113 v115 (.bool false) fun v116 =>
k [s0, s1, v116, s5, s6, s7, s8, s10, s11, s13, s14, s15, s16, s17, s19, s25, s32, s58, s67] H : R))
noncomputable def r5_24 (C : CallF) (k : KT R) : KT R := fun fr H => opn 19 fr (fun s0 s1 s4 s5 s6 s7 s8 s10 s11 s13 s14 s15 s16 s17 s19 s25 s32 s58 s67 => 
(qBstr s16 H fun v77 =>
qRes (C 8 [v77] H) fun v78 H =>
qExt v78 0 fun v79 =>
qExt v78 1 fun v80 =>
qNew (.cells z26) .ptr H fun v18 H =>
qSt 4 v18 v79 H fun _ H =>
k [s0, s1, s4, s5, s6, s7, s8, s10, s11, s13, s14, s15, s16, s17, v80, s25, s32, s58, s67] H : R))
noncomputable def r5_23 (k : KT R) : KT R := fun fr H => opn 19 fr (fun s0 s1 s4 s5 s6 s7 s8 s10 s11 s13 s14 s15 s16 s17 s19 s25 s32 s58 s67 => 
(qIa 1 s16 (.int .i64 0) fun v74 =>
qSt 1 v74 (.int .u8 53) H fun _ H =>
k [s0, s1, s4, s5, s6, s7, s8, s10, s11, s13, s14, s15, s16, s17, s19, s25, s32, s58, s67] H : R))
noncomputable def r5_21 (k : KT R) : KT R := fun fr H => opn 19 fr (fun s0 s1 s4 s5 s6 s7 s8 s10 s11 s13 s14 s15 s16 s17 s19 s25 s32 s58 s67 => 
(qAdd X 3 s17 (.int .i64 1) fun v69 =>
k [s0, s1, s4, s5, s6, s7, s8, s10, s11, s13, s14, s15, s16, v69, s19, s25, s32, s58, s67] H : R))
noncomputable def r5_22 (k : KT R) : KT R := fun fr H => opn 19 fr (fun s0 s1 s4 s5 s6 s7 s8 s10 s11 s13 s14 s15 s16 s17 s19 s25 s32 s58 s67 => 
(qIa 1 s16 s17 fun v72 =>
qSt 1 v72 (.int .u8 32) H fun _ H =>
k [s0, s1, s4, s5, s6, s7, s8, s10, s11, s13, s14, s15, s16, s17, s19, s25, s32, s58, s67] H : R))
noncomputable def r5_20 (k : KT R) : KT R := fun fr H => opn 19 fr (fun s0 s1 s4 s5 s6 s7 s8 s10 s11 s13 s14 s15 s16 s17 s19 s25 s32 s58 s67 => 
(qLenL s16 fun v66 =>
qLss X 3 s17 v66 fun v67 =>
k [s0, s1, s4, s5, s6, s7, s8, s10, s11, s13, s14, s15, s16, s17, s19, s25, s32, s58, v67] H : R))
noncomputable def l5_4 (k1 : KT R) : KT R → KT R := fun k2 => (r5_20 (qCd (sel 18) (fun k4 => k4) (fun _ => k1) (qBl (fun k3 => (r5_22 k3)) (r5_21 k2))))
noncomputable def r5_19 (k : KT R) : KT R := fun fr H => opn 19 fr (fun s0 s1 s4 s5 s6 s7 s8 s10 s11 s13 s14 s15 s16 s17 s19 s25 s32 s58 s67 => 
(k [s0, s1, s4, s5, s6, s7, s8, s10, s11, s13, s14, s15, s16, (.int .i64 0), s19, s25, s32, s58, s67] H : R))
noncomputable def r5_18 (k : KT R) : KT R := fun fr H => opn 19 fr (fun s0 s1 s4 s5 s6 s7 s8 s10 s11 s13 s14 s15 s16 s17 s19 s25 s32 s58 s67 => 
(qMkS z5 1 1 s15 s15 H fun v63 H =>
k [s0, s1, s4, s5, s6, s7, s8, s10, s11, s13, s14, s15, v63, s17, s19, s25, s32, s58, s67] H : R))
noncomputable def r5_17 (C : CallF) (k : KT R) : KT R := fun fr H => opn 19 fr (fun s0 s1 s4 s5 s6 s7 s8 s10 s11 s13 s14 s15 s16 s17 s19 s25 s32 s58 s67 => 
(qRes (C 13 [s1, (.int .i64 5)] H) fun v60 H =>
qAdd X 3 (.int .i64 3998) v60 fun v61 =>
k [s0, s1, s4, s5, s6, s7, s8, s10, s11, s13, s14, v61, s16, s17, s19, s25, s32, s58, s67] H : R))
noncomputable def r5_16 (k : KT R) : KT R := fun fr H => opn 19 fr (fun s0 s1 s4 s5 s6 s7 s8 s10 s11 s13 s14 s15 s16 s17 s19 s25 s32 s58 s67 => 
(k [s0, s1, s4, s5, s6, s7, s8, s10, s11, s13, (.int .i64 4), s15, s16, s17, s19, s25, s32, s58, s67] H : R))
noncomputable def r5_15 (k : KT R) : KT R := fun fr H => opn 19 fr (fun s0 s1 s4 s5 s6 s7 s8 s10 s11 s13 s14 s15 s16 s17 s19 s25 s32 s58 s67 => 
(qGeq X 3 s5 (.int .i64 12) fun v58 =>
k [s0, s1, s4, s5, s6, s7, s8, s10, s11, s13, s14, s15, s16, s17, s19, s25, s32, v58, s67] H : R))
noncomputable def r5_14 (k : KT R) : KT R := fun fr H => opn 19 fr (fun s0 s1 s4 s5 s6 s7 s8 s10 s11 s13 s14 s15 s16 s17 s19 s25 s32 s58 s67 => 
(k [s0, s1, s4, s5, s6, s7, s8, s10, s11, s13, (.int .i64 5), s15, s16, s17, s19, s25, s32, s58, s67] H : R))
noncomputable def r5_13 (C : CallF) (k : KT R) : KT R := fun fr H => opn 19 fr (fun s0 s1 s4 s5 s6 s7 s8 s10 s11 s13 s14 s15 s16 s17 s19 s25 s32 s58 s67 => 
(qRes (C 8 [s11] H) fun v54 H =>
qExt v54 0 fun v55 =>
qExt v54 1 fun v56 =>
qNew (.cells z26) .ptr H fun v12 H =>
qSt 4 v12 v55 H fun _ H =>
k [s0, s1, s4, s5, s6, s7, s8, s10, s11, v56, s14, s15, s16, s17, s19, s25, s32, s58, s67] H : R))
noncomputable def r5_12 (k : KT R) : KT R := fun fr H => opn 19 fr (fun s0 s1 s4 s5 s6 s7 s8 s10 s11 s13 s14 s15 s16 s17 s19 s25 s32 s58 s67 => 
(qSub X 3 s5 (.int .i64 1) fun v44 =>
qSlc Tryd.t9.desc 0 s6 none (some v44) none fun v45 =>
qAdd X 9 v45 (.str [123,34,97,34,58,49,44,34,97,34,58,50,125]) fun v46 =>
qAdd X 3 s5 (.int .i64 1) fun v49 =>
qSlc Tryd.t9.desc 0 s6 (some v49) none none fun v50 =>
qAdd X 9 v46 v50 fun v51 =>
k [s0, s1, s4, s5, s6, s7, s8, s10, v51, s13, s14, s15, s16, s17, s19, s25, s32, s58, s67] H : R))
noncomputable def r5_11 (C : CallF) (k : KT R) : KT R := fun fr H => opn 19 fr (fun s0 s1 s4 s5 s6 s7 s8 s10 s11 s13 s14 s15 s16 s17 s19 s25 s32 s58 s67 => 
(qRes (C 8 [s6] H) fun v39 H =>
qExt v39 0 fun v40 =>
qExt v39 1 fun v41 =>
qNew (.cells z26) .ptr H fun v9 H =>
qSt 4 v9 v40 H fun _ H =>
k [s0, s1, s4, s5, s6, s7, s8, v41, s11, s13, s14, s15, s16, s17, s19, s25, s32, s58, s67] H : R))
noncomputable def r5_9 (k : KT R) : KT R := fun fr H => opn 19 fr (fun s0 s1 s4 s5 s6 s7 s8 s10 s11 s13 s14 s15 s16 s17 s19 s25 s32 s58 s67 => 
(qAdd X 3 s8 (.int .i64 1) fun v34 =>
k [s0, s1, s4, s5, s6, s7, v34, s10, s11, s13, s14, s15, s16, s17, s19, s25, s32, s58, s67] H : R))
noncomputable def r5_10 (k : KT R) : KT R := fun fr H => opn 19 fr (fun s0 s1 s4 s5 s6 s7 s8 s10 s11 s13 s14 s15 s16 s17 s19 s25 s32 s58 s67 => 
(qAdd X 9 s6 (.str [93]) fun v36 =>
k [s0, s1, s4, s5, v36, s7, s8, s10, s11, s13, s14, s15, s16, s17, s19, s25, s32, s58, s67] H : R))
noncomputable def r5_8 (k : KT R) : KT R := fun fr H => opn 19 fr (fun s0 s1 s4 s5 s6 s7 s8 s10 s11 s13 s14 s15 s16 s17 s19 s25 s32 s58 s67 => 
(qLss X 3 s8 s5 fun v32 =>
k [s0, s1, s4, s5, s6, s7, s8, s10, s11, s13, s14, s15, s16, s17, s19, s25, v32, s58, s67] H : R))
noncomputable def l5_9 (k6 : KT R) : KT R → KT R := fun k7 => (r5_8 (qCd (sel 16) (fun k9 => k9) (fun _ => k6) (qBl (fun k8 => (r5_10 k8)) (r5_9 k7))))
noncomputable def r5_7 (k : KT R) : KT R := fun fr H => opn 19 fr (fun s0 s1 s4 s5 s6 s7 s8 s10 s11 s13 s14 s15 s16 s17 s19 s25 s32 s58 s67 => 
(k [s0, s1, s4, s5, s6, s7, (.int .i64 0), s10, s11, s13, s14, s15, s16, s17, s19, s25, s32, s58, s67] H : R))
noncomputable def r5_5 (k : KT R) : KT R := fun fr H => opn 19 fr (fun s0 s1 s4 s5 s6 s7 s8 s10 s11 s13 s14 s15 s16 s17 s19 s25 s32 s58 s67 => 
(qAdd X 3 s7 (.int .i64 1) fun v27 =>
k [s0, s1, s4, s5, s6, v27, s8, s10, s11, s13, s14, s15, s16, s17, s19, s25, s32, s58, s67] H : R))
noncomputable def r5_6 (k : KT R) : KT R := fun fr H => opn 19 fr (fun s0 s1 s4 s5 s6 s7 s8 s10 s11 s13 s14 s15 s16 s17 s19 s25 s32 s58 s67 => 
(qAdd X 9 s6 (.str [91]) fun v29 =>
k [s0, s1, s4, s5, v29, s7, s8, s10, s11, s13, s14, s15, s16, s17, s19, s25, s32, s58, s67] H : R))
noncomputable def r5_4 (k : KT R) : KT R := fun fr H => opn 19 fr (fun s0 s1 s4 s5 s6 s7 s8 s10 s11 s13 s14 s15 s16 s17 s19 s25 s32 s58 s67 => 
(qLss X 3 s7 s5 fun v25 =>
k [s0, s1, s4, s5, s6, s7, s8, s10, s11, s13, s14, s15, s16, s17, s19, v25, s32, s58, s67] H : R))
noncomputable def l5_13 (k10 : KT R) : KT R → KT R := fun k11 => (r5_4 (qCd (sel 15) (fun k13 => k13) (fun _ => k10) (qBl (fun k12 => (r5_6 k12)) (r5_5 k11))))
noncomputable def r5_3 (k : KT R) : KT R := fun fr H => opn 19 fr (fun s0 s1 s4 s5 s6 s7 s8 s10 s11 s13 s14 s15 s16 s17 s19 s25 s32 s58 s67 => 
(k [s0, s1, s4, s5, s6, (.int .i64 0), s8, s10, s11, s13, s14, s15, s16, s17, s19, s25, s32, s58, s67] H : R))
noncomputable def r5_2 (k : KT R) : KT R := fun fr H => opn 19 fr (fun s0 s1 s4 s5 s6 s7 s8 s10 s11 s13 s14 s15 s16 s17 s19 s25 s32 s58 s67 => 
(k [s0, s1, s4, s5, (.str []), s7, s8, s10, s11, s13, s14, s15, s16, s17, s19, s25, s32, s58, s67] H : R))
noncomputable def r5_1 (C : CallF) (k : KT R) : KT R := fun fr H => opn 19 fr (fun s0 s1 s4 s5 s6 s7 s8 s10 s11 s13 s14 s15 s16 s17 s19 s25 s32 s58 s67 => 
(qRes (C 13 [s0, (.int .i64 20)] H) fun v21 H =>
qAdd X 3 (.int .i64 1) v21 fun v22 =>
k [s0, s1, s4, v22, s6, s7, s8, s10, s11, s13, s14, s15, s16, s17, s19, s25, s32, s58, s67] H : R))
noncomputable def r5_0 (k : KT R) : KT R := fun fr H => opn 19 fr (fun s0 s1 s4 s5 s6 s7 s8 s10 s11 s13 s14 s15 s16 s17 s19 s25 s32 s58 s67 => 
(k [s0, s1, (.bool false), s5, s6, s7, s8, s10, s11, s13, s14, s15, s16, s17, s19, s25, s32, s58, s67] H : R))
noncomputable def c5 (C : CallF) (l0 : List AV) (H : AH) (k : AV → AH → R) : R := opn 2 l0 (fun x0 x1 => (qFn (fun kr => (r5_0 (r5_1 C (r5_2 (r5_3 (qBl (fun k10 => (qLoop (l5_13 k10))) (r5_7 (qBl (fun k6 => (qLoop (l5_9 k6))) (r5_11 C (r5_12 (r5_13 C (r5_14 (r5_15 (qCd (sel 17) (fun k5 => (r5_16 k5)) (fun k5 => k5) (r5_17 C (r5_18 (r5_19 (qBl (fun k1 => (qLoop (l5_4 k1))) (r5_23 (r5_24 C (r5_25 C kr)))))))))))))))))))))
(fun fr H => k (sel 2 fr) H) [x0, x1, Aes.undef, Aes.undef, Aes.undef, Aes.undef, Aes.undef, Aes.undef, Aes.undef, Aes.undef, Aes.undef, Aes.undef, Aes.undef, Aes.undef, Aes.undef, Aes.undef, Aes.undef, Aes.undef, Aes.undef] H : R))
/- refectory/refectorylaw03.awake -/
noncomputable def r7_3 (k : KT R) : KT R := fun fr H => opn 4 fr (fun s0 s1 s2 s4 => 
(qEql X 27 s2 (.int .i64 0) fun v14 =>
qG v14 true (fun k => qFa 0 s1 fun v => k v H) H fun v16 H =>
qG v14 true (fun k => qLd v16 H fun v => k v H) H fun v17 H =>
qG v14 true (fun k => qEql X 3 v17 (.int .i64 7) fun v => k v H) H fun v18 H =>
qPick v14 v18 (.bool false) fun v19 =>
qG v19 true (fun k => qFa 3 s1 fun v => k v H) H fun v21 H =>
qG v19 true (fun k => qLd v21 H fun v => k v H) H fun v22 H =>
qG v19 true (fun k => qLenL v22 fun v => k v H) H fun v23 H =>
qG v19 true (fun k => qEql X 3 v23 (.int .i64 2) fun v => k v H) H fun v24 H =>
qPick v19 v24 (.bool false) fun v25 =>
qG v25 true (fun k => qFa 3 s1 fun v => k v H) H fun v27 H =>
qG v25 true (fun k => qLd v27 H fun v => k v H) H fun v28 H =>
qG v25 true (fun k => qIa 4 v28 (.int .i64 1) fun v => k v H) H fun v29 H =>
qG v25 true (fun k => qFa 1 v29 fun v => k v H) H fun v30 H =>
qG v25 true (fun k => qLd v30 H fun v => k v H) H fun v31 H =>
qG v25 true (fun k => qEql X 9 v31 (.str [97]) fun v => k v H) H fun v32 H =>
qPick v25 v32 (.bool false) fun v33 =>
qG v33 true (fun k => k s4 H) H fun v35 H =>
qG v33 true (fun k => qEql X 27 v35 (.int .i64 2) fun v => k v H) H fun v36 H =>
qPick v33 v36 (.bool false) fun v37 =>
k [v37, s1, s2, s4] H : R))
noncomputable def r7_2 (C : CallF) (k : KT R) : KT R := fun fr H => opn 4 fr (fun s0 s1 s2 s4 => 
(qRes (C 8 [(.str [91,49,44,93])] H) fun v10 H =>
qExt v10 0 fun v11 =>
qExt v10 1 fun v12 =>
qNew (.cells z26) .ptr H fun v3 H =>
qSt 4 v3 v11 H fun _ H =>
k [s0, s1, s2, v12] H : R))
noncomputable def r7_1 (C : CallF) (k : KT R) : KT R := fun fr H => opn 4 fr (fun s0 s1 s2 s4 => 
(qRes (C 8 [(.str [32,91,49,32,44,32,34,97,34,93,32])] H) fun v6 H =>
qExt v6 0 fun v7 =>
qExt v6 1 fun v8 =>
qNew (.cells z26) .ptr H fun v1 H =>
qSt 4 v1 v7 H fun _ H =>
k [s0, v1, v8, s4] H : R))
noncomputable def r7_0 (k : KT R) : KT R := fun fr H => opn 4 fr (fun s0 s1 s2 s4 => 
(k [(.bool false), s1, s2, s4] H : R))
noncomputable def c7 (C : CallF) (l0 : List AV) (H : AH) (k : AV → AH → R) : R := opn 0 l0 ((qFn (fun kr => (r7_0 (r7_1 C (r7_2 C (r7_3 kr)))))
(fun fr H => k (sel 0 fr) H) [Aes.undef, Aes.undef, Aes.undef, Aes.undef] H : R))
/- refectory/jread.Read -/
noncomputable def r8_11 (k : KT R) : KT R := fun fr H => opn 10 fr (fun s0 s2 s3 s4 s5 s6 s9 s19 s24 s30 => 
(qLdA 4 s5 H fun v36 =>
qSt 4 s2 v36 H fun _ H =>
k [s0, s2, (.int .i64 0), s4, s5, s6, s9, s19, s24, s30] H : R))
noncomputable def r8_6 (k : KT R) : KT R := fun fr H => opn 10 fr (fun s0 s2 s3 s4 s5 s6 s9 s19 s24 s30 => 
(qBld z26 [] fun v22 =>
qSt 4 s2 v22 H fun _ H =>
k [s0, s2, s6, s4, s5, s6, s9, s19, s24, s30] H : R))
noncomputable def r8_8 (k : KT R) : KT R := fun fr H => opn 10 fr (fun s0 s2 s3 s4 s5 s6 s9 s19 s24 s30 => 
(qBld z26 [] fun v29 =>
qSt 4 s2 v29 H fun _ H =>
k [s0, s2, (.int .i64 4), s4, s5, s6, s9, s19, s24, s30] H : R))
noncomputable def r8_10 (k : KT R) : KT R := fun fr H => opn 10 fr (fun s0 s2 s3 s4 s5 s6 s9 s19 s24 s30 => 
(qBld z26 [] fun v35 =>
qSt 4 s2 v35 H fun _ H =>
k [s0, s2, (.int .i64 5), s4, s5, s6, s9, s19, s24, s30] H : R))
noncomputable def r8_9 (k : KT R) : KT R := fun fr H => opn 10 fr (fun s0 s2 s3 s4 s5 s6 s9 s19 s24 s30 => 
(qNc s4 fun v32 =>
qFa 2 v32 fun v33 =>
qLd v33 H fun v34 =>
k [s0, s2, s3, s4, s5, s6, s9, s19, s24, v34] H : R))
noncomputable def r8_7 (k : KT R) : KT R := fun fr H => opn 10 fr (fun s0 s2 s3 s4 s5 s6 s9 s19 s24 s30 => 
(qNc s4 fun v26 =>
qFa 1 v26 fun v27 =>
qLd v27 H fun v28 =>
k [s0, s2, s3, s4, s5, s6, s9, s19, v28, s30] H : R))
noncomputable def r8_5 (k : KT R) : KT R := fun fr H => opn 10 fr (fun s0 s2 s3 s4 s5 s6 s9 s19 s24 s30 => 
(qNeq X 27 s6 (.int .i64 0) fun v21 =>
k [s0, s2, s3, s4, s5, s6, s9, v21, s24, s30] H : R))
noncomputable def r8_4 (C : CallF) (k : KT R) : KT R := fun fr H => opn 10 fr (fun s0 s2 s3 s4 s5 s6 s9 s19 s24 s30 => 
(qRes (C 15 [s4] H) fun v16 H =>
qExt v16 0 fun v17 =>
qExt v16 1 fun v18 =>
qNew (.cells z26) .ptr H fun v5 H =>
qSt 4 v5 v17 H fun _ H =>
k [s0, s2, s3, s4, v5, v18, s9, s19, s24, s30] H : R))
noncomputable def r8_3 (k : KT R) : KT R := fun fr H => opn 10 fr (fun s0 s2 s3 s4 s5 s6 s9 s19 s24 s30 => 
(qBld z47 [(0, 1, s0)] fun v12 =>
qBox v12 H fun v13 H =>
k [s0, s2, s3, v13, s5, s6, s9, s19, s24, s30] H : R))
noncomputable def r8_2 (k : KT R) : KT R := fun fr H => opn 10 fr (fun s0 s2 s3 s4 s5 s6 s9 s19 s24 s30 => 
(qBld z26 [] fun v10 =>
qSt 4 s2 v10 H fun _ H =>
k [s0, s2, (.int .i64 3), s4, s5, s6, s9, s19, s24, s30] H : R))
noncomputable def r8_1 (k : KT R) : KT R := fun fr H => opn 10 fr (fun s0 s2 s3 s4 s5 s6 s9 s19 s24 s30 => 
(qLenS s0 fun v8 =>
qGtr X 3 v8 (.int .i64 4000) fun v9 =>
k [s0, s2, s3, s4, s5, s6, v9, s19, s24, s30] H : R))
noncomputable def r8_0 (k : KT R) : KT R := fun fr H => opn 10 fr (fun s0 s2 s3 s4 s5 s6 s9 s19 s24 s30 => 
(qNew (.cells z26) .ptr H fun v2 H =>
k [s0, v2, (.int .i64 0), s4, s5, s6, s9, s19, s24, s30] H : R))
noncomputable def c8 (C : CallF) (l0 : List AV) (H : AH) (k : AV → AH → R) : R := opn 1 l0 (fun x0 => (qFn (fun kr => (r8_0 (r8_1 (qCd (sel 6) (fun _ => (r8_2 kr)) (fun k5 => k5) (r8_3 (r8_4 C (qBl (fun k1 => (r8_5 (qCd (sel 7) (fun _ => (r8_6 kr)) (fun k2 => (r8_7 (qCd (sel 8) (fun _ => (r8_8 kr)) (fun k3 => (r8_9 (qCd (sel 9) (fun _ => (r8_10 kr)) (fun k4 => k4) k3))) k2))) k1))) (r8_11 kr))))))))
(fun fr H => qPtr (sel 1 fr) (qLdA 4 (sel 1 fr) H fun w0 => k (.tup [w0, (sel 2 fr)]) H)) [x0, Aes.undef, Aes.undef, Aes.undef, Aes.undef, Aes.undef, Aes.undef, Aes.undef, Aes.undef, Aes.undef] H : R))
/- refectory/refectorylaw00.Place -/
noncomputable def r13_4 (k : KT R) : KT R := fun fr H => opn 5 fr (fun s0 s1 s4 s5 s10 => 
(k [s0, s1, s5, s5, s10] H : R))
noncomputable def r13_3 (k : KT R) : KT R := fun fr H => opn 5 fr (fun s0 s1 s4 s5 s10 => 
(qAdd X 3 s5 s1 fun v13 =>
k [s0, s1, s4, v13, s10] H : R))
noncomputable def r13_2 (k : KT R) : KT R := fun fr H => opn 5 fr (fun s0 s1 s4 s5 s10 => 
(qLss X 3 s5 (.int .i64 0) fun v10 =>
k [s0, s1, s4, s5, v10] H : R))
noncomputable def r13_1 (k : KT R) : KT R := fun fr H => opn 5 fr (fun s0 s1 s4 s5 s10 => 
(qRem X 3 s0 s1 fun v8 =>
k [s0, s1, s4, v8, s10] H : R))
noncomputable def r13_0 (k : KT R) : KT R := fun fr H => opn 5 fr (fun s0 s1 s4 s5 s10 => 
(k [s0, s1, (.int .i64 0), s5, s10] H : R))
noncomputable def c13 (C : CallF) (l0 : List AV) (H : AH) (k : AV → AH → R) : R := opn 2 l0 (fun x0 x1 => (qFn (fun kr => (r13_0 (r13_1 (r13_2 (qCd (sel 4) (fun k1 => (r13_3 k1)) (fun k1 => k1) (r13_4 kr))))))
(fun fr H => k (sel 2 fr) H) [x0, x1, Aes.undef, Aes.undef, Aes.undef] H : R))
/- refectory/refectorylaw00.Digits -/
noncomputable def r14_1 (C : CallF) (k : KT R) : KT R := fun fr H => opn 2 fr (fun s0 s2 => 
(qRes (C 20 [s0] H) fun v4 H =>
k [s0, v4] H : R))
noncomputable def r14_0 (k : KT R) : KT R := fun fr H => opn 2 fr (fun s0 s2 => 
(k [s0, (.str [])] H : R))
noncomputable def c14 (C : CallF) (l0 : List AV) (H : AH) (k : AV → AH → R) : R := opn 1 l0 (fun x0 => (qFn (fun kr => (r14_0 (r14_1 C kr)))
(fun fr H => k (sel 1 fr) H) [x0, Aes.undef] H : R))
/- refectory/refectoryref08.Digits -/
noncomputable def r20_8 (C : CallF) (k : KT R) : KT R := fun fr H => opn 6 fr (fun s0 s2 s3 s4 s18 s28 => 
(qQuo X 3 s0 (.int .i64 10) fun v36 =>
qRem X 3 s0 (.int .i64 10) fun v39 =>
qRem X 3 s0 (.int .i64 10) fun v41 =>
qAdd X 3 v41 (.int .i64 1) fun v42 =>
qSlc Tryd.t9.desc 0 (.str [48,49,50,51,52,53,54,55,56,57]) (some v39) (some v42) none fun v43 =>
qRes (C 20 [v36] H) fun v37 H =>
qAdd X 9 v37 v43 fun v44 =>
k [s0, v44, s3, s4, s18, s28] H : R))
noncomputable def r20_3 (C : CallF) (k : KT R) : KT R := fun fr H => opn 6 fr (fun s0 s2 s3 s4 s18 s28 => 
(qQuo X 3 s0 (.int .i64 10) fun v11 =>
qAdd X 3 s3 (.int .i64 1) fun v15 =>
qSlc Tryd.t9.desc 0 (.str [48,49,50,51,52,53,54,55,56,57]) (some s3) (some v15) none fun v16 =>
qRes (C 20 [v11] H) fun v12 H =>
qAdd X 9 v12 v16 fun v17 =>
k [s0, v17, s3, s4, s18, s28] H : R))
noncomputable def r20_2 (k : KT R) : KT R := fun fr H => opn 6 fr (fun s0 s2 s3 s4 s18 s28 => 
(qRem X 3 s0 (.int .i64 10) fun v8 =>
qUn .neg v8 fun v9 =>
k [s0, s2, v9, s4, s18, s28] H : R))
noncomputable def r20_5 (k : KT R) : KT R := fun fr H => opn 6 fr (fun s0 s2 s3 s4 s18 s28 => 
(qUn .neg s0 fun v22 =>
qUn .neg s0 fun v24 =>
qAdd X 3 v24 (.int .i64 1) fun v25 =>
qSlc Tryd.t9.desc 0 (.str [48,49,50,51,52,53,54,55,56,57]) (some v22) (some v25) none fun v26 =>
qAdd X 9 (.str [45]) v26 fun v27 =>
k [s0, v27, s3, s4, s18, s28] H : R))
noncomputable def r20_7 (k : KT R) : KT R := fun fr H => opn 6 fr (fun s0 s2 s3 s4 s18 s28 => 
(qAdd X 3 s0 (.int .i64 1) fun v33 =>
qSlc Tryd.t9.desc 0 (.str [48,49,50,51,52,53,54,55,56,57]) (some s0) (some v33) none fun v34 =>
k [s0, v34, s3, s4, s18, s28] H : R))
noncomputable def r20_6 (k : KT R) : KT R := fun fr H => opn 6 fr (fun s0 s2 s3 s4 s18 s28 => 
(qLss X 3 s0 (.int .i64 10) fun v30 =>
k [s0, s2, s3, s4, s18, v30] H : R))
noncomputable def r20_4 (k : KT R) : KT R := fun fr H => opn 6 fr (fun s0 s2 s3 s4 s18 s28 => 
(qLss X 3 s0 (.int .i64 0) fun v20 =>
k [s0, s2, s3, s4, v20, s28] H : R))
noncomputable def r20_1 (k : KT R) : KT R := fun fr H => opn 6 fr (fun s0 s2 s3 s4 s18 s28 => 
(qLeq X 3 s0 (.int .i64 (-10)) fun v6 =>
k [s0, s2, s3, v6, s18, s28] H : R))
noncomputable def r20_0 (k : KT R) : KT R := fun fr H => opn 6 fr (fun s0 s2 s3 s4 s18 s28 => 
(k [s0, (.str []), s3, s4, s18, s28] H : R))
noncomputable def c20 (C : CallF) (l0 : List AV) (H : AH) (k : AV → AH → R) : R := opn 1 l0 (fun x0 => (qFn (fun kr => (r20_0 (qBl (fun k1 => (r20_1 (qCd (sel 3) (fun _ => (r20_2 (r20_3 C kr))) (fun k2 => (r20_4 (qCd (sel 4) (fun _ => (r20_5 kr)) (fun k3 => (r20_6 (qCd (sel 5) (fun _ => (r20_7 kr)) (fun k4 => k4) k3))) k2))) k1))) (r20_8 C kr))))
(fun fr H => k (sel 1 fr) H) [x0, Aes.undef, Aes.undef, Aes.undef, Aes.undef, Aes.undef] H : R))
/- (*refectory/jread.reader).value -/
noncomputable def r22_13 (C : CallF) (k : KT R) : KT R := fun fr H => opn 11 fr (fun s0 s1 s2 s3 s4 s5 s6 s7 s19 s27 s36 => 
(qLd s2 H fun v45 =>
qRes (C 40 [v45] H) fun v46 H =>
qSt 4 s4 v46 H fun _ H =>
k [s0, s1, s2, s3, s4, s5, s6, s7, s19, s27, s36] H : R))
noncomputable def r22_5 (k : KT R) : KT R := fun fr H => opn 11 fr (fun s0 s1 s2 s3 s4 s5 s6 s7 s19 s27 s36 => 
(qLdA 4 s5 H fun v26 =>
qSt 4 s4 v26 H fun _ H =>
k [s0, s1, s2, s3, s4, s5, s6, s7, s19, s27, s36] H : R))
noncomputable def r22_4 (C : CallF) (k : KT R) : KT R := fun fr H => opn 11 fr (fun s0 s1 s2 s3 s4 s5 s6 s7 s19 s27 s36 => 
(qLd s2 H fun v23 =>
qRes (C 33 [v23, (.str [93]), (.fn (.func 34) [] [s5, s2, s3])] H) fun v25 H =>
k [s0, s1, s2, s3, s4, s5, s6, s7, s19, s27, s36] H : R))
noncomputable def r22_3 (k : KT R) : KT R := fun fr H => opn 11 fr (fun s0 s1 s2 s3 s4 s5 s6 s7 s19 s27 s36 => 
(qBld z26 [(0, 1, (.int .i64 7))] fun v22 =>
qNew (.cells z26) .ptr H fun v5 H =>
qSt 4 v5 v22 H fun _ H =>
k [s0, s1, s2, s3, s4, v5, s6, s7, s19, s27, s36] H : R))
noncomputable def r22_10 (k : KT R) : KT R := fun fr H => opn 11 fr (fun s0 s1 s2 s3 s4 s5 s6 s7 s19 s27 s36 => 
(qLdA 4 s6 H fun v35 =>
qSt 4 s4 v35 H fun _ H =>
k [s0, s1, s2, s3, s4, s5, s6, s7, s19, s27, s36] H : R))
noncomputable def r22_9 (C : CallF) (k : KT R) : KT R := fun fr H => opn 11 fr (fun s0 s1 s2 s3 s4 s5 s6 s7 s19 s27 s36 => 
(qLd s2 H fun v32 =>
qRes (C 33 [v32, (.str [125]), (.fn (.func 35) [] [s2, s7, s6, s3])] H) fun v34 H =>
k [s0, s1, s2, s3, s4, s5, s6, s7, s19, s27, s36] H : R))
noncomputable def r22_8 (k : KT R) : KT R := fun fr H => opn 11 fr (fun s0 s1 s2 s3 s4 s5 s6 s7 s19 s27 s36 => 
(qNew (.map []) .map H fun v31 H =>
qNew (.cells z66) .ptr H fun v7 H =>
qSt 1 v7 v31 H fun _ H =>
k [s0, s1, s2, s3, s4, s5, s6, v7, s19, s27, s36] H : R))
noncomputable def r22_7 (k : KT R) : KT R := fun fr H => opn 11 fr (fun s0 s1 s2 s3 s4 s5 s6 s7 s19 s27 s36 => 
(qBld z26 [(0, 1, (.int .i64 8))] fun v30 =>
qNew (.cells z26) .ptr H fun v6 H =>
qSt 4 v6 v30 H fun _ H =>
k [s0, s1, s2, s3, s4, s5, v6, s7, s19, s27, s36] H : R))
noncomputable def r22_12 (C : CallF) (k : KT R) : KT R := fun fr H => opn 11 fr (fun s0 s1 s2 s3 s4 s5 s6 s7 s19 s27 s36 => 
(qLd s2 H fun v42 =>
qRes (C 39 [v42] H) fun v43 H =>
qBld z26 [(0, 1, (.int .i64 5)), (1, 1, v43)] fun v44 =>
qSt 4 s4 v44 H fun _ H =>
k [s0, s1, s2, s3, s4, s5, s6, s7, s19, s27, s36] H : R))
noncomputable def r22_11 (C : CallF) (k : KT R) : KT R := fun fr H => opn 11 fr (fun s0 s1 s2 s3 s4 s5 s6 s7 s19 s27 s36 => 
(qLd s2 H fun v37 =>
qNc v37 fun v38 =>
qFa 0 v38 fun v39 =>
qLd v39 H fun v40 =>
qRes (C 38 [v40, (.str [34])] H) fun v41 H =>
k [s0, s1, s2, s3, s4, s5, s6, s7, s19, s27, v41] H : R))
noncomputable def r22_6 (C : CallF) (k : KT R) : KT R := fun fr H => opn 11 fr (fun s0 s1 s2 s3 s4 s5 s6 s7 s19 s27 s36 => 
(qLd s2 H fun v28 =>
qRes (C 32 [v28, (.str [123])] H) fun v29 H =>
k [s0, s1, s2, s3, s4, s5, s6, s7, s19, v29, s36] H : R))
noncomputable def r22_2 (C : CallF) (k : KT R) : KT R := fun fr H => opn 11 fr (fun s0 s1 s2 s3 s4 s5 s6 s7 s19 s27 s36 => 
(qLd s2 H fun v20 =>
qRes (C 32 [v20, (.str [91])] H) fun v21 H =>
k [s0, s1, s2, s3, s4, s5, s6, s7, v21, s27, s36] H : R))
noncomputable def r22_1 (k : KT R) : KT R := fun fr H => opn 11 fr (fun s0 s1 s2 s3 s4 s5 s6 s7 s19 s27 s36 => 
(qLd s2 H fun v8 =>
qLd s2 H fun v9 =>
qNc v9 fun v10 =>
qFa 1 v10 fun v11 =>
qLd v11 H fun v12 =>
qG v12 false (fun k => qLd s3 H fun v => k v H) H fun v14 H =>
qG v12 false (fun k => qGtr X 3 v14 (.int .i64 12) fun v => k v H) H fun v15 H =>
qPick v12 (.bool true) v15 fun v16 =>
qNc v8 fun v17 =>
qFa 1 v17 fun v18 =>
qSt 1 v18 v16 H fun _ H =>
k [s0, s1, s2, s3, s4, s5, s6, s7, s19, s27, s36] H : R))
noncomputable def r22_0 (k : KT R) : KT R := fun fr H => opn 11 fr (fun s0 s1 s2 s3 s4 s5 s6 s7 s19 s27 s36 => 
(qBox s0 H fun v2 H =>
qBox s1 H fun v3 H =>
qNew (.cells z26) .ptr H fun v4 H =>
k [s0, s1, v2, v3, v4, s5, s6, s7, s19, s27, s36] H : R))
noncomputable def c22 (C : CallF) (l0 : List AV) (H : AH) (k : AV → AH → R) : R := opn 2 l0 (fun x0 x1 => (qFn (fun kr => (r22_0 (r22_1 (qBl (fun k1 => (r22_2 C (qCd (sel 8) (fun _ => (r22_3 (r22_4 C (r22_5 kr)))) (fun k2 => (r22_6 C (qCd (sel 9) (fun _ => (r22_7 (r22_8 (r22_9 C (r22_10 kr))))) (fun k3 => (r22_11 C (qCd (sel 10) (fun _ => (r22_12 C kr)) (fun k4 => k4) k3))) k2))) k1))) (r22_13 C kr)))))
(fun fr H => qPtr (sel 4 fr) (qLdA 4 (sel 4 fr) H fun w0 => k w0 H)) [x0, x1, Aes.undef, Aes.undef, Aes.undef, Aes.undef, Aes.undef, Aes.undef, Aes.undef, Aes.undef, Aes.undef] H : R))
/- (*refectory/jread.reader).skip -/
noncomputable def r23_0 (C : CallF) (k : KT R) : KT R := fun fr H => opn 1 fr (fun s0 => 
(qNc s0 fun v4 =>
qFa 0 v4 fun v5 =>
qLd v5 H fun v6 =>
qRes (C 41 [v6, (.str [32,9,10,13])] H) fun v7 H =>
qNc s0 fun v8 =>
qFa 0 v8 fun v9 =>
qSt 1 v9 v7 H fun _ H =>
k [s0] H : R))
noncomputable def c23 (C : CallF) (l0 : List AV) (H : AH) (k : AV → AH → R) : R := opn 1 l0 (fun x0 => (qFn (fun kr => (r23_0 C kr))
(fun fr H => k (.tup []) H) [x0] H : R))
/- (*refectory/jread.reader).fail -/
noncomputable def r24_0 (k : KT R) : KT R := fun fr H => opn 0 fr (
(qBld z57 [] fun v2 =>
qPan (.iface 57 v2) H : R))
noncomputable def c24 (C : CallF) (l0 : List AV) (H : AH) (k : AV → AH → R) : R := opn 1 l0 (fun x0 => (qFn (fun kr => (r24_0 kr))
(fun fr H => k (.tup []) H) [] H : R))
/- (*refectory/jread.reader).has -/
noncomputable def r32_4 (k : KT R) : KT R := fun fr H => opn 5 fr (fun s0 s1 s4 s5 s6 => 
(k [s0, s1, s6, s5, s6] H : R))
noncomputable def r32_3 (k : KT R) : KT R := fun fr H => opn 5 fr (fun s0 s1 s4 s5 s6 => 
(qNc s0 fun v20 =>
qFa 0 v20 fun v21 =>
qSt 1 v21 s5 H fun _ H =>
k [s0, s1, s4, s5, s6] H : R))
noncomputable def r32_2 (C : CallF) (k : KT R) : KT R := fun fr H => opn 5 fr (fun s0 s1 s4 s5 s6 => 
(qNc s0 fun v11 =>
qFa 0 v11 fun v12 =>
qLd v12 H fun v13 =>
qRes (C 48 [v13, s1] H) fun v15 H =>
qExt v15 0 fun v16 =>
qExt v15 1 fun v17 =>
k [s0, s1, s4, v16, v17] H : R))
noncomputable def r32_1 (C : CallF) (k : KT R) : KT R := fun fr H => opn 5 fr (fun s0 s1 s4 s5 s6 => 
(qRes (C 23 [s0] H) fun v8 H =>
k [s0, s1, s4, s5, s6] H : R))
noncomputable def r32_0 (k : KT R) : KT R := fun fr H => opn 5 fr (fun s0 s1 s4 s5 s6 => 
(k [s0, s1, (.bool false), s5, s6] H : R))
noncomputable def c32 (C : CallF) (l0 : List AV) (H : AH) (k : AV → AH → R) : R := opn 2 l0 (fun x0 x1 => (qFn (fun kr => (r32_0 (r32_1 C (r32_2 C (r32_3 (r32_4 kr))))))
(fun fr H => k (sel 2 fr) H) [x0, x1, Aes.undef, Aes.undef, Aes.undef] H : R))
/- (*refectory/jread.reader).list -/
noncomputable def r33_4 (C : CallF) (k : KT R) : KT R := fun fr H => opn 5 fr (fun s0 s1 s2 s8 s12 => 
(qRes (C 37 [s0, s1] H) fun v17 H =>
k [s0, s1, s2, s8, s12] H : R))
noncomputable def r33_3 (C : CallF) (k : KT R) : KT R := fun fr H => opn 5 fr (fun s0 s1 s2 s8 s12 => 
(qCallV C s2 [] H fun v14 H =>
k [s0, s1, s2, s8, s12] H : R))
noncomputable def r33_2 (C : CallF) (k : KT R) : KT R := fun fr H => opn 5 fr (fun s0 s1 s2 s8 s12 => 
(qRes (C 32 [s0, (.str [44])] H) fun v12 H =>
k [s0, s1, s2, s8, v12] H : R))
noncomputable def l33_4 (C : CallF) (k1 : KT R) : KT R → KT R := fun k2 => (r33_2 C (qCd (sel 4) (fun k4 => k4) (fun _ => k1) (qBl (fun k3 => (r33_3 C k3)) k2)))
noncomputable def r33_1 (C : CallF) (k : KT R) : KT R := fun fr H => opn 5 fr (fun s0 s1 s2 s8 s12 => 
(qCallV C s2 [] H fun v10 H =>
k [s0, s1, s2, s8, s12] H : R))
noncomputable def r33_0 (C : CallF) (k : KT R) : KT R := fun fr H => opn 5 fr (fun s0 s1 s2 s8 s12 => 
(qRes (C 32 [s0, s1] H) fun v8 H =>
k [s0, s1, s2, v8, s12] H : R))
noncomputable def c33 (C : CallF) (l0 : List AV) (H : AH) (k : AV → AH → R) : R := opn 3 l0 (fun x0 x1 x2 => (qFn (fun kr => (r33_0 C (qCd (sel 3) (fun _ => kr) (fun k5 => k5) (r33_1 C (qBl (fun k1 => (qLoop (l33_4 C k1))) (r33_4 C kr))))))
(fun fr H => k (.tup []) H) [x0, x1, x2, Aes.undef, Aes.undef] H : R))
/- (*refectory/jread.reader).value$1 -/
noncomputable def r34_0 (C : CallF) (k : KT R) : KT R := fun fr H => opn 3 fr (fun s0 s1 s2 => 
(qFa 3 s0 fun v3 =>
qLd v3 H fun v4 =>
qLd s1 H fun v5 =>
qLd s2 H fun v6 =>
qAdd X 3 v6 (.int .i64 1) fun v7 =>
qLenL v4 fun v9 =>
qRows z26 1 [(0, (.agg [.int .i64 0, .str [], .sl [] .nil, .sl [] .nil]))] fun v10 =>
qRes (C 22 [v5, v7] H) fun v8 H =>
qLd v3 H fun w => qSame v4 w (qApp 4 72 v4 v10 true none H fun v11 H =>
qIa 4 v11 v9 fun v12 =>
qFa 3 s0 fun v13 =>
qTwin v12 v13 (qSt 4 v12 v8 H fun _ H =>
qSt 1 v13 v11 H fun _ H =>
k [s0, s1, s2] H)) : R))
noncomputable def c34 (C : CallF) (l0 : List AV) (H : AH) (k : AV → AH → R) : R := opn 3 l0 (fun x0 x1 x2 => (qFn (fun kr => (r34_0 C kr))
(fun fr H => k (.tup []) H) [x0, x1, x2] H : R))
/- (*refectory/jread.reader).value$2 -/
noncomputable def r35_5 (C : CallF) (k : KT R) : KT R := fun fr H => opn 5 fr (fun s0 s1 s2 s3 s4 => 
(qFa 3 s2 fun v29 =>
qLd v29 H fun v30 =>
qLd s0 H fun v31 =>
qLd s3 H fun v32 =>
qAdd X 3 v32 (.int .i64 1) fun v33 =>
qLenL v30 fun v35 =>
qRows z26 1 [(0, (.agg [.int .i64 0, .str [], .sl [] .nil, .sl [] .nil]))] fun v36 =>
qRes (C 22 [v31, v33] H) fun v34 H =>
qLd v29 H fun w => qSame v30 w (qApp 4 72 v30 v36 true none H fun v37 H =>
qIa 4 v37 v35 fun v38 =>
qFa 3 s2 fun v39 =>
qTwin v38 v39 (qSt 4 v38 v34 H fun _ H =>
qSt 1 v39 v37 H fun _ H =>
k [s0, s1, s2, s3, s4] H)) : R))
noncomputable def r35_4 (k : KT R) : KT R := fun fr H => opn 5 fr (fun s0 s1 s2 s3 s4 => 
(qFa 2 s2 fun v23 =>
qLd v23 H fun v24 =>
qRows z9 1 [(0, s4)] fun v26 =>
qApp 1 16 v24 v26 false none H fun v27 H =>
qFa 2 s2 fun v28 =>
qSt 1 v28 v27 H fun _ H =>
k [s0, s1, s2, s3, s4] H : R))
noncomputable def r35_3 (C : CallF) (k : KT R) : KT R := fun fr H => opn 5 fr (fun s0 s1 s2 s3 s4 => 
(qLd s0 H fun v21 =>
qRes (C 37 [v21, (.str [58])] H) fun v22 H =>
k [s0, s1, s2, s3, s4] H : R))
noncomputable def r35_2 (k : KT R) : KT R := fun fr H => opn 5 fr (fun s0 s1 s2 s3 s4 => 
(qLd s1 H fun v19 =>
qMset X 66 v19 s4 (.bool true) H fun _ H =>
k [s0, s1, s2, s3, s4] H : R))
noncomputable def r35_1 (k : KT R) : KT R := fun fr H => opn 5 fr (fun s0 s1 s2 s3 s4 => 
(qLd s0 H fun v7 =>
qLd s0 H fun v8 =>
qNc v8 fun v9 =>
qFa 2 v9 fun v10 =>
qLd v10 H fun v11 =>
qG v11 false (fun k => qLd s1 H fun v => k v H) H fun v13 H =>
qG v11 false (fun k => k s4 H) H fun v14 H =>
qG v11 false (fun k => qO (lookup X 66 v13 v14 false H) fun v => k v H) H fun v15 H =>
qPick v11 (.bool true) v15 fun v16 =>
qNc v7 fun v17 =>
qFa 2 v17 fun v18 =>
qSt 1 v18 v16 H fun _ H =>
k [s0, s1, s2, s3, s4] H : R))
noncomputable def r35_0 (C : CallF) (k : KT R) : KT R := fun fr H => opn 5 fr (fun s0 s1 s2 s3 s4 => 
(qLd s0 H fun v5 =>
qRes (C 36 [v5] H) fun v6 H =>
k [s0, s1, s2, s3, v6] H : R))
noncomputable def c35 (C : CallF) (l0 : List AV) (H : AH) (k : AV → AH → R) : R := opn 4 l0 (fun x0 x1 x2 x3 => (qFn (fun kr => (r35_0 C (r35_1 (r35_2 (r35_3 C (r35_4 (r35_5 C kr)))))))
(fun fr H => k (.tup []) H) [x0, x1, x2, x3, Aes.undef] H : R))
/- (*refectory/jread.reader).name -/
noncomputable def r36_4 (C : CallF) (k : KT R) : KT R := fun fr H => opn 3 fr (fun s0 s2 s10 => 
(qRes (C 39 [s0] H) fun v14 H =>
k [s0, v14, s10] H : R))
noncomputable def r36_3 (C : CallF) (k : KT R) : KT R := fun fr H => opn 3 fr (fun s0 s2 s10 => 
(qRes (C 24 [s0] H) fun v12 H =>
k [s0, s2, s10] H : R))
noncomputable def r36_2 (C : CallF) (k : KT R) : KT R := fun fr H => opn 3 fr (fun s0 s2 s10 => 
(qNc s0 fun v6 =>
qFa 0 v6 fun v7 =>
qLd v7 H fun v8 =>
qRes (C 38 [v8, (.str [34])] H) fun v9 H =>
qNot v9 fun v10 =>
k [s0, s2, v10] H : R))
noncomputable def r36_1 (C : CallF) (k : KT R) : KT R := fun fr H => opn 3 fr (fun s0 s2 s10 => 
(qRes (C 23 [s0] H) fun v4 H =>
k [s0, s2, s10] H : R))
noncomputable def r36_0 (k : KT R) : KT R := fun fr H => opn 3 fr (fun s0 s2 s10 => 
(k [s0, (.str []), s10] H : R))
noncomputable def c36 (C : CallF) (l0 : List AV) (H : AH) (k : AV → AH → R) : R := opn 1 l0 (fun x0 => (qFn (fun kr => (r36_0 (r36_1 C (r36_2 C (qCd (sel 2) (fun k1 => (r36_3 C k1)) (fun k1 => k1) (r36_4 C kr))))))
(fun fr H => k (sel 1 fr) H) [x0, Aes.undef, Aes.undef] H : R))
/- (*refectory/jread.reader).must -/
noncomputable def r37_1 (C : CallF) (k : KT R) : KT R := fun fr H => opn 3 fr (fun s0 s1 s7 => 
(qRes (C 24 [s0] H) fun v9 H =>
k [s0, s1, s7] H : R))
noncomputable def r37_0 (C : CallF) (k : KT R) : KT R := fun fr H => opn 3 fr (fun s0 s1 s7 => 
(qRes (C 32 [s0, s1] H) fun v6 H =>
qNot v6 fun v7 =>
k [s0, s1, v7] H : R))
noncomputable def c37 (C : CallF) (l0 : List AV) (H : AH) (k : AV → AH → R) : R := opn 2 l0 (fun x0 x1 => (qFn (fun kr => (r37_0 C (qCd (sel 2) (fun k1 => (r37_1 C k1)) (fun k1 => k1) kr)))
(fun fr H => k (.tup []) H) [x0, x1, Aes.undef] H : R))
/- strings.HasPrefix -/
noncomputable def r38_1 (C : CallF) (k : KT R) : KT R := fun fr H => opn 3 fr (fun s0 s1 s4 => 
(qRes (C 49 [s0, s1] H) fun v7 H =>
k [s0, s1, v7] H : R))
noncomputable def r38_0 (k : KT R) : KT R := fun fr H => opn 3 fr (fun s0 s1 s4 => 
(k [s0, s1, (.bool false)] H : R))
noncomputable def c38 (C : CallF) (l0 : List AV) (H : AH) (k : AV → AH → R) : R := opn 2 l0 (fun x0 x1 => (qFn (fun kr => (r38_0 (r38_1 C kr)))
(fun fr H => k (sel 2 fr) H) [x0, x1, Aes.undef] H : R))
/- (*refectory/jread.reader).text -/
noncomputable def r39_13 (k : KT R) : KT R := fun fr H => opn 9 fr (fun s0 s2 s3 s4 s5 s23 s30 s41 s56 => 
(k [s0, s4, s3, s4, s5, s23, s30, s41, s56] H : R))
noncomputable def r39_12 (k : KT R) : KT R := fun fr H => opn 9 fr (fun s0 s2 s3 s4 s5 s23 s30 s41 s56 => 
(qNc s0 fun v61 =>
qFa 0 v61 fun v62 =>
qLd v62 H fun v63 =>
qAdd X 3 s3 (.int .i64 1) fun v65 =>
qSlc Tryd.t9.desc 0 v63 (some v65) none none fun v66 =>
qNc s0 fun v67 =>
qFa 0 v67 fun v68 =>
qSt 1 v68 v66 H fun _ H =>
k [s0, s2, s3, s4, s5, s23, s30, s41, s56] H : R))
noncomputable def r39_11 (C : CallF) (k : KT R) : KT R := fun fr H => opn 9 fr (fun s0 s2 s3 s4 s5 s23 s30 s41 s56 => 
(qRes (C 24 [s0] H) fun v58 H =>
k [s0, s2, s3, s4, s5, s23, s30, s41, s56] H : R))
noncomputable def r39_10 (k : KT R) : KT R := fun fr H => opn 9 fr (fun s0 s2 s3 s4 s5 s23 s30 s41 s56 => 
(qNot s5 fun v56 =>
k [s0, s2, s3, s4, s5, s23, s30, s41, v56] H : R))
noncomputable def r39_9 (C : CallF) (k : KT R) : KT R := fun fr H => opn 9 fr (fun s0 s2 s3 s4 s5 s23 s30 s41 s56 => 
(qNc s0 fun v46 =>
qFa 0 v46 fun v47 =>
qLd v47 H fun v48 =>
qAdd X 3 s3 (.int .i64 1) fun v50 =>
qSlc Tryd.t9.desc 0 v48 none (some v50) none fun v51 =>
qRes (C 50 [v51] H) fun v52 H =>
qExt v52 0 fun v53 =>
qExt v52 1 fun v54 =>
k [s0, s2, s3, v53, v54, s23, s30, s41, s56] H : R))
noncomputable def r39_8 (C : CallF) (k : KT R) : KT R := fun fr H => opn 9 fr (fun s0 s2 s3 s4 s5 s23 s30 s41 s56 => 
(qRes (C 24 [s0] H) fun v43 H =>
k [s0, s2, s3, s4, s5, s23, s30, s41, s56] H : R))
noncomputable def r39_7 (k : KT R) : KT R := fun fr H => opn 9 fr (fun s0 s2 s3 s4 s5 s23 s30 s41 s56 => 
(qNc s0 fun v37 =>
qFa 0 v37 fun v38 =>
qLd v38 H fun v39 =>
qLenS v39 fun v40 =>
qGeq X 3 s3 v40 fun v41 =>
k [s0, s2, s3, s4, s5, s23, s30, v41, s56] H : R))
noncomputable def r39_6 (k : KT R) : KT R := fun fr H => opn 9 fr (fun s0 s2 s3 s4 s5 s23 s30 s41 s56 => 
(qAdd X 3 s3 (.int .i64 1) fun v34 =>
k [s0, s2, v34, s4, s5, s23, s30, s41, s56] H : R))
noncomputable def r39_5 (k : KT R) : KT R := fun fr H => opn 9 fr (fun s0 s2 s3 s4 s5 s23 s30 s41 s56 => 
(qAdd X 3 s3 (.int .i64 1) fun v32 =>
k [s0, s2, v32, s4, s5, s23, s30, s41, s56] H : R))
noncomputable def r39_4 (k : KT R) : KT R := fun fr H => opn 9 fr (fun s0 s2 s3 s4 s5 s23 s30 s41 s56 => 
(qNc s0 fun v25 =>
qFa 0 v25 fun v26 =>
qLd v26 H fun v27 =>
qIx v27 s3 fun v29 =>
qEql X 5 v29 (.int .u8 92) fun v30 =>
k [s0, s2, s3, s4, s5, s23, v30, s41, s56] H : R))
noncomputable def r39_3 (k : KT R) : KT R := fun fr H => opn 9 fr (fun s0 s2 s3 s4 s5 s23 s30 s41 s56 => 
(qNc s0 fun v10 =>
qFa 0 v10 fun v11 =>
qLd v11 H fun v12 =>
qLenS v12 fun v13 =>
qLss X 3 s3 v13 fun v14 =>
qG v14 true (fun k => k s0 H) H fun v16 H =>
qG v14 true (fun k => qNc v16 fun v => k v H) H fun v17 H =>
qG v14 true (fun k => qFa 0 v17 fun v => k v H) H fun v18 H =>
qG v14 true (fun k => qLd v18 H fun v => k v H) H fun v19 H =>
qG v14 true (fun k => k s3 H) H fun v20 H =>
qG v14 true (fun k => qIx v19 v20 fun v => k v H) H fun v21 H =>
qG v14 true (fun k => qNeq X 5 v21 (.int .u8 34) fun v => k v H) H fun v22 H =>
qPick v14 v22 (.bool false) fun v23 =>
k [s0, s2, s3, s4, s5, v23, s30, s41, s56] H : R))
noncomputable def l39_7 (k3 : KT R) : KT R → KT R := fun k4 => (r39_3 (qCd (sel 5) (fun k7 => k7) (fun _ => k3) (qBl (fun k5 => (r39_4 (qCd (sel 6) (fun k6 => (r39_5 k6)) (fun k6 => k6) (r39_6 k5)))) k4)))
noncomputable def r39_2 (k : KT R) : KT R := fun fr H => opn 9 fr (fun s0 s2 s3 s4 s5 s23 s30 s41 s56 => 
(k [s0, s2, (.int .i64 1), s4, s5, s23, s30, s41, s56] H : R))
noncomputable def r39_1 (C : CallF) (k : KT R) : KT R := fun fr H => opn 9 fr (fun s0 s2 s3 s4 s5 s23 s30 s41 s56 => 
(qRes (C 23 [s0] H) fun v7 H =>
k [s0, s2, s3, s4, s5, s23, s30, s41, s56] H : R))
noncomputable def r39_0 (k : KT R) : KT R := fun fr H => opn 9 fr (fun s0 s2 s3 s4 s5 s23 s30 s41 s56 => 
(k [s0, (.str []), s3, s4, s5, s23, s30, s41, s56] H : R))
noncomputable def c39 (C : CallF) (l0 : List AV) (H : AH) (k : AV → AH → R) : R := opn 1 l0 (fun x0 => (qFn (fun kr => (r39_0 (r39_1 C (r39_2 (qBl (fun k3 => (qLoop (l39_7 k3))) (r39_7 (qCd (sel 7) (fun k2 => (r39_8 C k2)) (fun k2 => k2) (r39_9 C (r39_10 (qCd (sel 8) (fun k1 => (r39_11 C k1)) (fun k1 => k1) (r39_12 (r39_13 kr))))))))))))
(fun fr H => k (sel 1 fr) H) [x0, Aes.undef, Aes.undef, Aes.undef, Aes.undef, Aes.undef, Aes.undef, Aes.undef, Aes.undef] H : R))
/- (*refectory/jread.reader).word -/
noncomputable def r40_11 (k : KT R) : KT R := fun fr H => opn 9 fr (fun s0 s2 s3 s4 s5 s13 s17 s26 s31 => 
(qBld z26 [(0, 1, (.int .i64 4)), (1, 1, s3)] fun v36 =>
qSt 4 s2 v36 H fun _ H =>
k [s0, s2, s3, s4, s5, s13, s17, s26, s31] H : R))
noncomputable def r40_4 (k : KT R) : KT R := fun fr H => opn 9 fr (fun s0 s2 s3 s4 s5 s13 s17 s26 s31 => 
(qBld z26 [(0, 1, (.int .i64 1))] fun v16 =>
qSt 4 s2 v16 H fun _ H =>
k [s0, s2, s3, s4, s5, s13, s17, s26, s31] H : R))
noncomputable def r40_6 (k : KT R) : KT R := fun fr H => opn 9 fr (fun s0 s2 s3 s4 s5 s13 s17 s26 s31 => 
(qBld z26 [(0, 1, (.int .i64 2)), (1, 1, s3)] fun v25 =>
qSt 4 s2 v25 H fun _ H =>
k [s0, s2, s3, s4, s5, s13, s17, s26, s31] H : R))
noncomputable def r40_8 (C : CallF) (k : KT R) : KT R := fun fr H => opn 9 fr (fun s0 s2 s3 s4 s5 s13 s17 s26 s31 => 
(qRes (C 24 [s0] H) fun v30 H =>
k [s0, s2, s3, s4, s5, s13, s17, s26, s31] H : R))
noncomputable def r40_10 (k : KT R) : KT R := fun fr H => opn 9 fr (fun s0 s2 s3 s4 s5 s13 s17 s26 s31 => 
(qBld z26 [(0, 1, (.int .i64 3)), (1, 1, s3)] fun v34 =>
qSt 4 s2 v34 H fun _ H =>
k [s0, s2, s3, s4, s5, s13, s17, s26, s31] H : R))
noncomputable def r40_9 (k : KT R) : KT R := fun fr H => opn 9 fr (fun s0 s2 s3 s4 s5 s13 s17 s26 s31 => 
(k [s0, s2, s3, s4, s5, s13, s17, s26, s4] H : R))
noncomputable def r40_7 (k : KT R) : KT R := fun fr H => opn 9 fr (fun s0 s2 s3 s4 s5 s13 s17 s26 s31 => 
(qNot s5 fun v28 =>
k [s0, s2, s3, s4, s5, s13, s17, v28, s31] H : R))
noncomputable def r40_5 (k : KT R) : KT R := fun fr H => opn 9 fr (fun s0 s2 s3 s4 s5 s13 s17 s26 s31 => 
(qEql X 9 s3 (.str [116,114,117,101]) fun v19 =>
qG v19 false (fun k => k s3 H) H fun v21 H =>
qG v19 false (fun k => qEql X 9 v21 (.str [102,97,108,115,101]) fun v => k v H) H fun v22 H =>
qPick v19 (.bool true) v22 fun v23 =>
k [s0, s2, s3, s4, s5, s13, v23, s26, s31] H : R))
noncomputable def r40_3 (k : KT R) : KT R := fun fr H => opn 9 fr (fun s0 s2 s3 s4 s5 s13 s17 s26 s31 => 
(qEql X 9 s3 (.str [110,117,108,108]) fun v15 =>
k [s0, s2, s3, s4, s5, v15, s17, s26, s31] H : R))
noncomputable def r40_2 (C : CallF) (k : KT R) : KT R := fun fr H => opn 9 fr (fun s0 s2 s3 s4 s5 s13 s17 s26 s31 => 
(qRes (C 54 [s3] H) fun v10 H =>
qExt v10 0 fun v11 =>
qExt v10 1 fun v12 =>
k [s0, s2, s3, v11, v12, s13, s17, s26, s31] H : R))
noncomputable def r40_1 (C : CallF) (k : KT R) : KT R := fun fr H => opn 9 fr (fun s0 s2 s3 s4 s5 s13 s17 s26 s31 => 
(qRes (C 51 [s0, (.fn (.func 52) [] [])] H) fun v7 H =>
k [s0, s2, v7, s4, s5, s13, s17, s26, s31] H : R))
noncomputable def r40_0 (k : KT R) : KT R := fun fr H => opn 9 fr (fun s0 s2 s3 s4 s5 s13 s17 s26 s31 => 
(qNew (.cells z26) .ptr H fun v2 H =>
k [s0, v2, s3, s4, s5, s13, s17, s26, s31] H : R))
noncomputable def c40 (C : CallF) (l0 : List AV) (H : AH) (k : AV → AH → R) : R := opn 1 l0 (fun x0 => (qFn (fun kr => (r40_0 (r40_1 C (r40_2 C (qBl (fun k1 => (r40_3 (qCd (sel 5) (fun _ => (r40_4 kr)) (fun k2 => (r40_5 (qCd (sel 6) (fun _ => (r40_6 kr)) (fun k3 => (r40_7 (qCd (sel 7) (fun k4 => (r40_8 C k4)) (fun k4 => (r40_9 (qCd (sel 8) (fun _ => (r40_10 kr)) (fun k5 => k5) k4))) k3))) k2))) k1))) (r40_11 kr))))))
(fun fr H => qPtr (sel 1 fr) (qLdA 4 (sel 1 fr) H fun w0 => k w0 H)) [x0, Aes.undef, Aes.undef, Aes.undef, Aes.undef, Aes.undef, Aes.undef, Aes.undef, Aes.undef] H : R))
/- strings.TrimLeft -/
noncomputable def r41_8 (C : CallF) (k : KT R) : KT R := fun fr H => opn 8 fr (fun s0 s1 s4 s5 s6 s12 s21 s31 => 
(qRes (C 58 [s0, s1] H) fun v36 H =>
k [s0, s1, v36, s5, s6, s12, s21, s31] H : R))
noncomputable def r41_7 (C : CallF) (k : KT R) : KT R := fun fr H => opn 8 fr (fun s0 s1 s4 s5 s6 s12 s21 s31 => 
(qRes (C 57 [s0, s5] H) fun v33 H =>
k [s0, s1, v33, s5, s6, s12, s21, s31] H : R))
noncomputable def r41_6 (k : KT R) : KT R := fun fr H => opn 8 fr (fun s0 s1 s4 s5 s6 s12 s21 s31 => 
(k [s0, s1, s4, s5, s6, s12, s21, s6] H : R))
noncomputable def r41_5 (C : CallF) (k : KT R) : KT R := fun fr H => opn 8 fr (fun s0 s1 s4 s5 s6 s12 s21 s31 => 
(qRes (C 56 [s1] H) fun v28 H =>
qExt v28 0 fun v29 =>
qExt v28 1 fun v30 =>
qNew (.cells z81) .ptr H fun v5 H =>
qSt 256 v5 v29 H fun _ H =>
k [s0, s1, s4, v5, v30, s12, s21, s31] H : R))
noncomputable def r41_4 (C : CallF) (k : KT R) : KT R := fun fr H => opn 8 fr (fun s0 s1 s4 s5 s6 s12 s21 s31 => 
(qIx s1 (.int .i64 0) fun v24 =>
qRes (C 55 [s0, v24] H) fun v25 H =>
k [s0, s1, v25, s5, s6, s12, s21, s31] H : R))
noncomputable def r41_3 (k : KT R) : KT R := fun fr H => opn 8 fr (fun s0 s1 s4 s5 s6 s12 s21 s31 => 
(qLenS s1 fun v15 =>
qEql X 3 v15 (.int .i64 1) fun v16 =>
qG v16 true (fun k => k s1 H) H fun v18 H =>
qG v16 true (fun k => qIx v18 (.int .i64 0) fun v => k v H) H fun v19 H =>
qG v16 true (fun k => qLss X 5 v19 (.int .u8 128) fun v => k v H) H fun v20 H =>
qPick v16 v20 (.bool false) fun v21 =>
k [s0, s1, s4, s5, s6, s12, v21, s31] H : R))
noncomputable def r41_2 (k : KT R) : KT R := fun fr H => opn 8 fr (fun s0 s1 s4 s5 s6 s12 s21 s31 => 
(k [s0, s1, s0, s5, s6, s12, s21, s31] H : R))
noncomputable def r41_1 (k : KT R) : KT R := fun fr H => opn 8 fr (fun s0 s1 s4 s5 s6 s12 s21 s31 => 
(qEql X 9 s0 (.str []) fun v8 =>
qG v8 false (fun k => k s1 H) H fun v10 H =>
qG v8 false (fun k => qEql X 9 v10 (.str []) fun v => k v H) H fun v11 H =>
qPick v8 (.bool true) v11 fun v12 =>
k [s0, s1, s4, s5, s6, v12, s21, s31] H : R))
noncomputable def r41_0 (k : KT R) : KT R := fun fr H => opn 8 fr (fun s0 s1 s4 s5 s6 s12 s21 s31 => 
(k [s0, s1, (.str []), s5, s6, s12, s21, s31] H : R))
noncomputable def c41 (C : CallF) (l0 : List AV) (H : AH) (k : AV → AH → R) : R := opn 2 l0 (fun x0 x1 => (qFn (fun kr => (r41_0 (r41_1 (qCd (sel 5) (fun _ => (r41_2 kr)) (fun k3 => k3) (r41_3 (qCd (sel 6) (fun _ => (r41_4 C kr)) (fun k2 => k2) (r41_5 C (r41_6 (qCd (sel 7) (fun _ => (r41_7 C kr)) (fun k1 => k1) (r41_8 C kr))))))))))
(fun fr H => k (sel 2 fr) H) [x0, x1, Aes.undef, Aes.undef, Aes.undef, Aes.undef, Aes.undef, Aes.undef] H : R))
/- strings.CutPrefix -/
noncomputable def r48_1 (C : CallF) (k : KT R) : KT R := fun fr H => opn 4 fr (fun s0 s1 s4 s5 => 
(qRes (C 62 [s0, s1] H) fun v8 H =>
qExt v8 0 fun v9 =>
qExt v8 1 fun v10 =>
k [s0, s1, v9, v10] H : R))
noncomputable def r48_0 (k : KT R) : KT R := fun fr H => opn 4 fr (fun s0 s1 s4 s5 => 
(k [s0, s1, (.str []), (.bool false)] H : R))
noncomputable def c48 (C : CallF) (l0 : List AV) (H : AH) (k : AV → AH → R) : R := opn 2 l0 (fun x0 x1 => (qFn (fun kr => (r48_0 (r48_1 C kr)))
(fun fr H => k (.tup [(sel 2 fr), (sel 3 fr)]) H) [x0, x1, Aes.undef, Aes.undef] H : R))
/- internal/stringslite.HasPrefix -/
noncomputable def r49_1 (k : KT R) : KT R := fun fr H => opn 3 fr (fun s0 s1 s4 => 
(qLenS s0 fun v6 =>
qLenS s1 fun v8 =>
qGeq X 3 v6 v8 fun v9 =>
qG v9 true (fun k => k s0 H) H fun v11 H =>
qG v9 true (fun k => k s1 H) H fun v12 H =>
qG v9 true (fun k => qLenS v12 fun v => k v H) H fun v13 H =>
qG v9 true (fun k => qSlc Tryd.t9.desc 0 v11 none (some v13) none fun v => k v H) H fun v14 H =>
qG v9 true (fun k => k s1 H) H fun v15 H =>
qG v9 true (fun k => qEql X 9 v14 v15 fun v => k v H) H fun v16 H =>
qPick v9 v16 (.bool false) fun v17 =>
k [s0, s1, v17] H : R))
noncomputable def r49_0 (k : KT R) : KT R := fun fr H => opn 3 fr (fun s0 s1 s4 => 
(k [s0, s1, (.bool false)] H : R))
noncomputable def c49 (C : CallF) (l0 : List AV) (H : AH) (k : AV → AH → R) : R := opn 2 l0 (fun x0 x1 => (qFn (fun kr => (r49_0 (r49_1 kr)))
(fun fr H => k (sel 2 fr) H) [x0, x1, Aes.undef] H : R))
/- refectory/runes.Unquote -/
noncomputable def r50_27 (C : CallF) (k : KT R) : KT R := fun fr H => opn 21 fr (fun s0 s2 s3 s4 s5 s6 s7 s8 s9 s10 s31 s38 s39 s40 s49 s55 s59 s66 s71 s77 s92 => 
(qRes (C 67 [s4] H) fun v99 H =>
k [s0, v99, (.bool true), s4, s5, s6, s7, s8, s9, s10, s31, s38, s39, s40, s49, s55, s59, s66, s71, s77, s92] H : R))
noncomputable def r50_16 (k : KT R) : KT R := fun fr H => opn 21 fr (fun s0 s2 s3 s4 s5 s6 s7 s8 s9 s10 s31 s38 s39 s40 s49 s55 s59 s66 s71 s77 s92 => 
(k [s0, (.str []), (.bool false), s4, s5, s6, s7, s8, s9, s10, s31, s38, s39, s40, s49, s55, s59, s66, s71, s77, s92] H : R))
noncomputable def r50_18 (C : CallF) (k : KT R) : KT R := fun fr H => opn 21 fr (fun s0 s2 s3 s4 s5 s6 s7 s8 s9 s10 s31 s38 s39 s40 s49 s55 s59 s66 s71 s77 s92 => 
(qRes (C 64 [s4, s7] H) fun v70 H =>
k [s0, s2, s3, s4, s5, s6, s7, s8, s9, s10, s31, s38, s39, s40, s49, s55, s59, s66, s71, s77, s92] H : R))
noncomputable def r50_20 (k : KT R) : KT R := fun fr H => opn 21 fr (fun s0 s2 s3 s4 s5 s6 s7 s8 s9 s10 s31 s38 s39 s40 s49 s55 s59 s66 s71 s77 s92 => 
(k [s0, (.str []), (.bool false), s4, s5, s6, s7, s8, s9, s10, s31, s38, s39, s40, s49, s55, s59, s66, s71, s77, s92] H : R))
noncomputable def r50_26 (k : KT R) : KT R := fun fr H => opn 21 fr (fun s0 s2 s3 s4 s5 s6 s7 s8 s9 s10 s31 s38 s39 s40 s49 s55 s59 s66 s71 s77 s92 => 
(qAdd X 3 s6 (.int .i64 2) fun v96 =>
qAdd X 3 v96 s9 fun v98 =>
k [s0, s2, s3, s4, v98, s6, s7, s8, s9, s10, s31, s38, s39, s40, s49, s55, s59, s66, s71, s77, s92] H : R))
noncomputable def r50_25 (C : CallF) (k : KT R) : KT R := fun fr H => opn 21 fr (fun s0 s2 s3 s4 s5 s6 s7 s8 s9 s10 s31 s38 s39 s40 s49 s55 s59 s66 s71 s77 s92 => 
(qRes (C 64 [s4, s8] H) fun v94 H =>
k [s0, s2, s3, s4, s5, s6, s7, s8, s9, s10, s31, s38, s39, s40, s49, s55, s59, s66, s71, s77, s92] H : R))
noncomputable def r50_24 (k : KT R) : KT R := fun fr H => opn 21 fr (fun s0 s2 s3 s4 s5 s6 s7 s8 s9 s10 s31 s38 s39 s40 s49 s55 s59 s66 s71 s77 s92 => 
(k [s0, (.str []), (.bool false), s4, s5, s6, s7, s8, s9, s10, s31, s38, s39, s40, s49, s55, s59, s66, s71, s77, s92] H : R))
noncomputable def r50_23 (k : KT R) : KT R := fun fr H => opn 21 fr (fun s0 s2 s3 s4 s5 s6 s7 s8 s9 s10 s31 s38 s39 s40 s49 s55 s59 s66 s71 s77 s92 => 
(qLss X 21 s8 (.int .i32 0) fun v92 =>
k [s0, s2, s3, s4, s5, s6, s7, s8, s9, s10, s31, s38, s39, s40, s49, s55, s59, s66, s71, s77, v92] H : R))
noncomputable def r50_22 (C : CallF) (k : KT R) : KT R := fun fr H => opn 21 fr (fun s0 s2 s3 s4 s5 s6 s7 s8 s9 s10 s31 s38 s39 s40 s49 s55 s59 s66 s71 s77 s92 => 
(qAdd X 3 s6 (.int .i64 2) fun v86 =>
qSlc Tryd.t9.desc 0 s0 (some v86) none none fun v87 =>
qRes (C 65 [v87] H) fun v88 H =>
qExt v88 0 fun v89 =>
qExt v88 1 fun v90 =>
k [s0, s2, s3, s4, s5, s6, s7, v89, v90, s10, s31, s38, s39, s40, s49, s55, s59, s66, s71, s77, s92] H : R))
noncomputable def r50_13 (k : KT R) : KT R := fun fr H => opn 21 fr (fun s0 s2 s3 s4 s5 s6 s7 s8 s9 s10 s31 s38 s39 s40 s49 s55 s59 s66 s71 s77 s92 => 
(qAdd X 3 s6 (.int .i64 2) fun v54 =>
k [s0, s2, s3, s4, v54, s6, s7, s8, s9, s10, s31, s38, s39, s40, s49, s55, s59, s66, s71, s77, s92] H : R))
noncomputable def r50_12 (C : CallF) (k : KT R) : KT R := fun fr H => opn 21 fr (fun s0 s2 s3 s4 s5 s6 s7 s8 s9 s10 s31 s38 s39 s40 s49 s55 s59 s66 s71 s77 s92 => 
(qIx (.str [34,92,47,8,12,10,13,9]) s10 fun v51 =>
qRes (C 66 [s4, v51] H) fun v52 H =>
k [s0, s2, s3, s4, s5, s6, s7, s8, s9, s10, s31, s38, s39, s40, s49, s55, s59, s66, s71, s77, s92] H : R))
noncomputable def r50_11 (k : KT R) : KT R := fun fr H => opn 21 fr (fun s0 s2 s3 s4 s5 s6 s7 s8 s9 s10 s31 s38 s39 s40 s49 s55 s59 s66 s71 s77 s92 => 
(k [s0, (.str []), (.bool false), s4, s5, s6, s7, s8, s9, s10, s31, s38, s39, s40, s49, s55, s59, s66, s71, s77, s92] H : R))
noncomputable def r50_10 (k : KT R) : KT R := fun fr H => opn 21 fr (fun s0 s2 s3 s4 s5 s6 s7 s8 s9 s10 s31 s38 s39 s40 s49 s55 s59 s66 s71 s77 s92 => 
(qLss X 3 s10 (.int .i64 0) fun v49 =>
k [s0, s2, s3, s4, s5, s6, s7, s8, s9, s10, s31, s38, s39, s40, v49, s55, s59, s66, s71, s77, s92] H : R))
noncomputable def r50_9 (C : CallF) (k : KT R) : KT R := fun fr H => opn 21 fr (fun s0 s2 s3 s4 s5 s6 s7 s8 s9 s10 s31 s38 s39 s40 s49 s55 s59 s66 s71 s77 s92 => 
(qAdd X 3 s6 (.int .i64 1) fun v45 =>
qIx s0 v45 fun v46 =>
qRes (C 53 [(.str [34,92,47,98,102,110,114,116]), v46] H) fun v47 H =>
k [s0, s2, s3, s4, s5, s6, s7, s8, s9, v47, s31, s38, s39, s40, s49, s55, s59, s66, s71, s77, s92] H : R))
noncomputable def r50_21 (k : KT R) : KT R := fun fr H => opn 21 fr (fun s0 s2 s3 s4 s5 s6 s7 s8 s9 s10 s31 s38 s39 s40 s49 s55 s59 s66 s71 s77 s92 => 
(qAdd X 3 s6 (.int .i64 1) fun v80 =>
qIx s0 v80 fun v81 =>
qEql X 5 v81 (.int .u8 117) fun v82 =>
k [s0, s2, s3, s4, s5, s6, s7, s8, s9, s10, s31, s38, s39, s40, s49, s55, s59, s66, s71, v82, s92] H : R))
noncomputable def r50_19 (k : KT R) : KT R := fun fr H => opn 21 fr (fun s0 s2 s3 s4 s5 s6 s7 s8 s9 s10 s31 s38 s39 s40 s49 s55 s59 s66 s71 s77 s92 => 
(qAdd X 3 s6 (.int .i64 1) fun v73 =>
qLenS s0 fun v75 =>
qGeq X 3 v73 v75 fun v76 =>
k [s0, s2, s3, s4, s5, s6, s7, s8, s9, s10, s31, s38, s39, s40, s49, s55, s59, s66, v76, s77, s92] H : R))
noncomputable def r50_17 (k : KT R) : KT R := fun fr H => opn 21 fr (fun s0 s2 s3 s4 s5 s6 s7 s8 s9 s10 s31 s38 s39 s40 s49 s55 s59 s66 s71 s77 s92 => 
(qNeq X 21 s7 (.int .i32 92) fun v68 =>
k [s0, s2, s3, s4, s5, s6, s7, s8, s9, s10, s31, s38, s39, s40, s49, s55, s59, v68, s71, s77, s92] H : R))
noncomputable def r50_15 (k : KT R) : KT R := fun fr H => opn 21 fr (fun s0 s2 s3 s4 s5 s6 s7 s8 s9 s10 s31 s38 s39 s40 s49 s55 s59 s66 s71 s77 s92 => 
(qLss X 21 s7 (.int .i32 32) fun v61 =>
qG v61 false (fun k => k s7 H) H fun v63 H =>
qG v61 false (fun k => qEql X 21 v63 (.int .i32 34) fun v => k v H) H fun v64 H =>
qPick v61 (.bool true) v64 fun v65 =>
k [s0, s2, s3, s4, s5, s6, s7, s8, s9, s10, s31, s38, s39, s40, s49, s55, v65, s66, s71, s77, s92] H : R))
noncomputable def r50_14 (k : KT R) : KT R := fun fr H => opn 21 fr (fun s0 s2 s3 s4 s5 s6 s7 s8 s9 s10 s31 s38 s39 s40 s49 s55 s59 s66 s71 s77 s92 => 
(qLss X 3 s6 s5 fun v58 =>
k [s0, s2, s3, s4, s5, s6, s7, s8, s9, s10, s31, s38, s39, s40, s49, v58, s59, s66, s71, s77, s92] H : R))
noncomputable def r50_8 (k : KT R) : KT R := fun fr H => opn 21 fr (fun s0 s2 s3 s4 s5 s6 s7 s8 s9 s10 s31 s38 s39 s40 s49 s55 s59 s66 s71 s77 s92 => 
(qExt s39 1 fun v41 =>
qExt s39 2 fun v42 =>
k [s0, s2, s3, s4, s5, v41, v42, s8, s9, s10, s31, s38, s39, s40, s49, s55, s59, s66, s71, s77, s92] H : R))
noncomputable def r50_7 (k : KT R) : KT R := fun fr H => opn 21 fr (fun s0 s2 s3 s4 s5 s6 s7 s8 s9 s10 s31 s38 s39 s40 s49 s55 s59 s66 s71 s77 s92 => 
(qNext s38 H fun v39 H =>
qExt v39 0 fun v40 =>
k [s0, s2, s3, s4, s5, s6, s7, s8, s9, s10, s31, s38, v39, v40, s49, s55, s59, s66, s71, s77, s92] H : R))
noncomputable def l50_12 (C : CallF) (k1 : KT R) (kr : KT R) : KT R → KT R := fun k2 => (r50_7 (qCd (sel 13) (fun k12 => k12) (fun _ => k1) (qBl (fun k3 => (r50_8 (qBl (fun k4 => (r50_14 (qCd (sel 15) (fun k5 => k5) (fun k5 => (r50_15 (qCd (sel 16) (fun _ => (r50_16 kr)) (fun k6 => (r50_17 (qCd (sel 17) (fun k7 => (r50_18 C k7)) (fun k7 => (r50_19 (qCd (sel 18) (fun _ => (r50_20 kr)) (fun k8 => (r50_21 (qCd (sel 19) (fun k9 => (r50_22 C (r50_23 (qCd (sel 20) (fun _ => (r50_24 kr)) (fun k10 => k10) (r50_25 C (r50_26 k9)))))) (fun k9 => (r50_9 C (r50_10 (qCd (sel 14) (fun _ => (r50_11 kr)) (fun k11 => k11) (r50_12 C (r50_13 k9)))))) k8))) k7))) k6))) k5))) k4))) k3))) k2)))
noncomputable def r50_6 (k : KT R) : KT R := fun fr H => opn 21 fr (fun s0 s2 s3 s4 s5 s6 s7 s8 s9 s10 s31 s38 s39 s40 s49 s55 s59 s66 s71 s77 s92 => 
(qRange s0 H fun v38 H =>
k [s0, s2, s3, s4, s5, s6, s7, s8, s9, s10, s31, v38, s39, s40, s49, s55, s59, s66, s71, s77, s92] H : R))
noncomputable def r50_5 (k : KT R) : KT R := fun fr H => opn 21 fr (fun s0 s2 s3 s4 s5 s6 s7 s8 s9 s10 s31 s38 s39 s40 s49 s55 s59 s66 s71 s77 s92 => 
(k [s0, s2, s3, s4, (.int .i64 0), s6, s7, s8, s9, s10, s31, s38, s39, s40, s49, s55, s59, s66, s71, s77, s92] H : R))
noncomputable def r50_4 (k : KT R) : KT R := fun fr H => opn 21 fr (fun s0 s2 s3 s4 s5 s6 s7 s8 s9 s10 s31 s38 s39 s40 s49 s55 s59 s66 s71 s77 s92 => 
(qNew (.obj 93 0 z93) .ptr H fun v4 H =>
k [s0, s2, s3, v4, s5, s6, s7, s8, s9, s10, s31, s38, s39, s40, s49, s55, s59, s66, s71, s77, s92] H : R))
noncomputable def r50_3 (k : KT R) : KT R := fun fr H => opn 21 fr (fun s0 s2 s3 s4 s5 s6 s7 s8 s9 s10 s31 s38 s39 s40 s49 s55 s59 s66 s71 s77 s92 => 
(qLenS s0 fun v34 =>
qSub X 3 v34 (.int .i64 1) fun v35 =>
qSlc Tryd.t9.desc 0 s0 (some (.int .i64 1)) (some v35) none fun v36 =>
k [v36, s2, s3, s4, s5, s6, s7, s8, s9, s10, s31, s38, s39, s40, s49, s55, s59, s66, s71, s77, s92] H : R))
noncomputable def r50_2 (k : KT R) : KT R := fun fr H => opn 21 fr (fun s0 s2 s3 s4 s5 s6 s7 s8 s9 s10 s31 s38 s39 s40 s49 s55 s59 s66 s71 s77 s92 => 
(k [s0, (.str []), (.bool false), s4, s5, s6, s7, s8, s9, s10, s31, s38, s39, s40, s49, s55, s59, s66, s71, s77, s92] H : R))
noncomputable def r50_1 (C : CallF) (k : KT R) : KT R := fun fr H => opn 21 fr (fun s0 s2 s3 s4 s5 s6 s7 s8 s9 s10 s31 s38 s39 s40 s49 s55 s59 s66 s71 s77 s92 => 
(qLenS s0 fun v12 =>
qLss X 3 v12 (.int .i64 2) fun v13 =>
qG v13 false (fun k => k s0 H) H fun v15 H =>
qG v13 false (fun k => qIx v15 (.int .i64 0) fun v => k v H) H fun v16 H =>
qG v13 false (fun k => qNeq X 5 v16 (.int .u8 34) fun v => k v H) H fun v17 H =>
qPick v13 (.bool true) v17 fun v18 =>
qG v18 false (fun k => k s0 H) H fun v20 H =>
qG v18 false (fun k => k s0 H) H fun v21 H =>
qG v18 false (fun k => qLenS v21 fun v => k v H) H fun v22 H =>
qG v18 false (fun k => qSub X 3 v22 (.int .i64 1) fun v => k v H) H fun v23 H =>
qG v18 false (fun k => qIx v20 v23 fun v => k v H) H fun v24 H =>
qG v18 false (fun k => qNeq X 5 v24 (.int .u8 34) fun v => k v H) H fun v25 H =>
qPick v18 (.bool true) v25 fun v26 =>
qG v26 false (fun k => k s0 H) H fun v28 H =>
qG v26 false (fun k => qRes (C 63 [v28] H) k) H fun v29 H =>
qG v26 false (fun k => qNot v29 fun v => k v H) H fun v30 H =>
qPick v26 (.bool true) v30 fun v31 =>
k [s0, s2, s3, s4, s5, s6, s7, s8, s9, s10, v31, s38, s39, s40, s49, s55, s59, s66, s71, s77, s92] H : R))
noncomputable def r50_0 (k : KT R) : KT R := fun fr H => opn 21 fr (fun s0 s2 s3 s4 s5 s6 s7 s8 s9 s10 s31 s38 s39 s40 s49 s55 s59 s66 s71 s77 s92 => 
(k [s0, (.str []), (.bool false), s4, s5, s6, s7, s8, s9, s10, s31, s38, s39, s40, s49, s55, s59, s66, s71, s77, s92] H : R))
noncomputable def c50 (C : CallF) (l0 : List AV) (H : AH) (k : AV → AH → R) : R := opn 1 l0 (fun x0 => (qFn (fun kr => (r50_0 (r50_1 C (qCd (sel 10) (fun _ => (r50_2 kr)) (fun k13 => k13) (r50_3 (r50_4 (r50_5 (r50_6 (qBl (fun k1 => (qLoop (l50_12 C k1 kr))) (r50_27 C kr))))))))))
(fun fr H => k (.tup [(sel 1 fr), (sel 2 fr)]) H) [x0, Aes.undef, Aes.undef, Aes.undef, Aes.undef, Aes.undef, Aes.undef, Aes.undef, Aes.undef, Aes.undef, Aes.undef, Aes.undef, Aes.undef, Aes.undef, Aes.undef, Aes.undef, Aes.undef, Aes.undef, Aes.undef, Aes.undef, Aes.undef] H : R))
/- (*refectory/jread.reader).take -/
noncomputable def r51_6 (k : KT R) : KT R := fun fr H => opn 6 fr (fun s0 s1 s4 s5 s6 s23 => 
(k [s0, s1, s6, s5, s6, s23] H : R))
noncomputable def r51_5 (k : KT R) : KT R := fun fr H => opn 6 fr (fun s0 s1 s4 s5 s6 s23 => 
(qNc s0 fun v34 =>
qFa 0 v34 fun v35 =>
qLd v35 H fun v36 =>
qSlc Tryd.t9.desc 0 v36 (some s5) none none fun v38 =>
qNc s0 fun v39 =>
qFa 0 v39 fun v40 =>
qSt 1 v40 v38 H fun _ H =>
k [s0, s1, s4, s5, s6, s23] H : R))
noncomputable def r51_4 (k : KT R) : KT R := fun fr H => opn 6 fr (fun s0 s1 s4 s5 s6 s23 => 
(qNc s0 fun v27 =>
qFa 0 v27 fun v28 =>
qLd v28 H fun v29 =>
qSlc Tryd.t9.desc 0 v29 none (some s5) none fun v31 =>
k [s0, s1, s4, s5, v31, s23] H : R))
noncomputable def r51_3 (k : KT R) : KT R := fun fr H => opn 6 fr (fun s0 s1 s4 s5 s6 s23 => 
(qAdd X 3 s5 (.int .i64 1) fun v25 =>
k [s0, s1, s4, v25, s6, s23] H : R))
noncomputable def r51_2 (C : CallF) (k : KT R) : KT R := fun fr H => opn 6 fr (fun s0 s1 s4 s5 s6 s23 => 
(qNc s0 fun v9 =>
qFa 0 v9 fun v10 =>
qLd v10 H fun v11 =>
qLenS v11 fun v12 =>
qLss X 3 s5 v12 fun v13 =>
qG v13 true (fun k => k s1 H) H fun v15 H =>
qG v13 true (fun k => k s0 H) H fun v16 H =>
qG v13 true (fun k => qNc v16 fun v => k v H) H fun v17 H =>
qG v13 true (fun k => qFa 0 v17 fun v => k v H) H fun v18 H =>
qG v13 true (fun k => qLd v18 H fun v => k v H) H fun v19 H =>
qG v13 true (fun k => k s5 H) H fun v20 H =>
qG v13 true (fun k => qIx v19 v20 fun v => k v H) H fun v21 H =>
qG v13 true (fun k => qCallV C v15 [v21] H k) H fun v22 H =>
qPick v13 v22 (.bool false) fun v23 =>
k [s0, s1, s4, s5, s6, v23] H : R))
noncomputable def l51_4 (C : CallF) (k1 : KT R) : KT R → KT R := fun k2 => (r51_2 C (qCd (sel 5) (fun k4 => k4) (fun _ => k1) (qBl (fun k3 => (r51_3 k3)) k2)))
noncomputable def r51_1 (k : KT R) : KT R := fun fr H => opn 6 fr (fun s0 s1 s4 s5 s6 s23 => 
(k [s0, s1, s4, (.int .i64 0), s6, s23] H : R))
noncomputable def r51_0 (k : KT R) : KT R := fun fr H => opn 6 fr (fun s0 s1 s4 s5 s6 s23 => 
(k [s0, s1, (.str []), s5, s6, s23] H : R))
noncomputable def c51 (C : CallF) (l0 : List AV) (H : AH) (k : AV → AH → R) : R := opn 2 l0 (fun x0 x1 => (qFn (fun kr => (r51_0 (r51_1 (qBl (fun k1 => (qLoop (l51_4 C k1))) (r51_4 (r51_5 (r51_6 kr)))))))
(fun fr H => k (sel 2 fr) H) [x0, x1, Aes.undef, Aes.undef, Aes.undef, Aes.undef] H : R))
/- (*refectory/jread.reader).word$1 -/
noncomputable def r52_1 (C : CallF) (k : KT R) : KT R := fun fr H => opn 2 fr (fun s0 s2 => 
(qRes (C 53 [(.str [32,9,10,13,91,93,123,125,44,58,34]), s0] H) fun v4 H =>
qLss X 3 v4 (.int .i64 0) fun v5 =>
k [s0, v5] H : R))
noncomputable def r52_0 (k : KT R) : KT R := fun fr H => opn 2 fr (fun s0 s2 => 
(k [s0, (.bool false)] H : R))
noncomputable def c52 (C : CallF) (l0 : List AV) (H : AH) (k : AV → AH → R) : R := opn 1 l0 (fun x0 => (qFn (fun kr => (r52_0 (r52_1 C kr)))
(fun fr H => k (sel 1 fr) H) [x0, Aes.undef] H : R))
/- refectory/jval.Number -/
noncomputable def r54_23 (k : KT R) : KT R := fun fr H => opn 15 fr (fun s0 s2 s3 s4 s5 s6 s7 s8 s11 s26 s37 s41 s52 s62 s68 => 
(qG s2 true (fun k => k s0 H) H fun v74 H =>
qG s2 true (fun k => qEql X 9 v74 (.str []) fun v => k v H) H fun v75 H =>
qPick s2 v75 (.bool false) fun v76 =>
qEql X 9 s0 (.str []) fun v78 =>
k [s0, v76, v78, s4, s5, s6, s7, s8, s11, s26, s37, s41, s52, s62, s68] H : R))
noncomputable def r54_22 (k : KT R) : KT R := fun fr H => opn 15 fr (fun s0 s2 s3 s4 s5 s6 s7 s8 s11 s26 s37 s41 s52 s62 s68 => 
(qSlc Tryd.t9.desc 0 s0 (some s8) none none fun v71 =>
k [v71, s2, s3, s4, s5, s6, s7, s8, s11, s26, s37, s41, s52, s62, s68] H : R))
noncomputable def r54_21 (k : KT R) : KT R := fun fr H => opn 15 fr (fun s0 s2 s3 s4 s5 s6 s7 s8 s11 s26 s37 s41 s52 s62 s68 => 
(k [s0, (.bool false), (.bool false), s4, s5, s6, s7, s8, s11, s26, s37, s41, s52, s62, s68] H : R))
noncomputable def r54_20 (k : KT R) : KT R := fun fr H => opn 15 fr (fun s0 s2 s3 s4 s5 s6 s7 s8 s11 s26 s37 s41 s52 s62 s68 => 
(qEql X 3 s8 (.int .i64 0) fun v68 =>
k [s0, s2, s3, s4, s5, s6, s7, s8, s11, s26, s37, s41, s52, s62, v68] H : R))
noncomputable def r54_19 (C : CallF) (k : KT R) : KT R := fun fr H => opn 15 fr (fun s0 s2 s3 s4 s5 s6 s7 s8 s11 s26 s37 s41 s52 s62 s68 => 
(qRes (C 70 [s0] H) fun v66 H =>
k [s0, s2, s3, s4, s5, s6, s7, v66, s11, s26, s37, s41, s52, s62, s68] H : R))
noncomputable def r54_18 (k : KT R) : KT R := fun fr H => opn 15 fr (fun s0 s2 s3 s4 s5 s6 s7 s8 s11 s26 s37 s41 s52 s62 s68 => 
(qSlc Tryd.t9.desc 0 s0 (some (.int .i64 1)) none none fun v64 =>
k [v64, s2, s3, s4, s5, s6, s7, s8, s11, s26, s37, s41, s52, s62, s68] H : R))
noncomputable def r54_17 (C : CallF) (k : KT R) : KT R := fun fr H => opn 15 fr (fun s0 s2 s3 s4 s5 s6 s7 s8 s11 s26 s37 s41 s52 s62 s68 => 
(qNeq X 9 s0 (.str []) fun v56 =>
qG v56 true (fun k => k s0 H) H fun v58 H =>
qG v56 true (fun k => qIx v58 (.int .i64 0) fun v => k v H) H fun v59 H =>
qG v56 true (fun k => qRes (C 53 [(.str [43,45]), v59] H) k) H fun v60 H =>
qG v56 true (fun k => qGeq X 3 v60 (.int .i64 0) fun v => k v H) H fun v61 H =>
qPick v56 v61 (.bool false) fun v62 =>
k [s0, s2, s3, s4, s5, s6, s7, s8, s11, s26, s37, s41, s52, v62, s68] H : R))
noncomputable def r54_16 (k : KT R) : KT R := fun fr H => opn 15 fr (fun s0 s2 s3 s4 s5 s6 s7 s8 s11 s26 s37 s41 s52 s62 s68 => 
(qSlc Tryd.t9.desc 0 s0 (some (.int .i64 1)) none none fun v54 =>
k [v54, s2, s3, s4, s5, s6, s7, s8, s11, s26, s37, s41, s52, s62, s68] H : R))
noncomputable def r54_15 (C : CallF) (k : KT R) : KT R := fun fr H => opn 15 fr (fun s0 s2 s3 s4 s5 s6 s7 s8 s11 s26 s37 s41 s52 s62 s68 => 
(qNeq X 9 s0 (.str []) fun v46 =>
qG v46 true (fun k => k s0 H) H fun v48 H =>
qG v46 true (fun k => qIx v48 (.int .i64 0) fun v => k v H) H fun v49 H =>
qG v46 true (fun k => qRes (C 53 [(.str [101,69]), v49] H) k) H fun v50 H =>
qG v46 true (fun k => qGeq X 3 v50 (.int .i64 0) fun v => k v H) H fun v51 H =>
qPick v46 v51 (.bool false) fun v52 =>
k [s0, s2, s3, s4, s5, s6, s7, s8, s11, s26, s37, s41, v52, s62, s68] H : R))
noncomputable def r54_14 (k : KT R) : KT R := fun fr H => opn 15 fr (fun s0 s2 s3 s4 s5 s6 s7 s8 s11 s26 s37 s41 s52 s62 s68 => 
(qSlc Tryd.t9.desc 0 s5 (some s7) none none fun v44 =>
k [v44, s2, s3, s4, s5, s6, s7, s8, s11, s26, s37, s41, s52, s62, s68] H : R))
noncomputable def r54_13 (k : KT R) : KT R := fun fr H => opn 15 fr (fun s0 s2 s3 s4 s5 s6 s7 s8 s11 s26 s37 s41 s52 s62 s68 => 
(k [s0, (.bool false), (.bool false), s4, s5, s6, s7, s8, s11, s26, s37, s41, s52, s62, s68] H : R))
noncomputable def r54_12 (k : KT R) : KT R := fun fr H => opn 15 fr (fun s0 s2 s3 s4 s5 s6 s7 s8 s11 s26 s37 s41 s52 s62 s68 => 
(qEql X 3 s7 (.int .i64 0) fun v41 =>
k [s0, s2, s3, s4, s5, s6, s7, s8, s11, s26, s37, v41, s52, s62, s68] H : R))
noncomputable def r54_11 (C : CallF) (k : KT R) : KT R := fun fr H => opn 15 fr (fun s0 s2 s3 s4 s5 s6 s7 s8 s11 s26 s37 s41 s52 s62 s68 => 
(qRes (C 70 [s5] H) fun v39 H =>
k [s0, s2, s3, s4, s5, s6, v39, s8, s11, s26, s37, s41, s52, s62, s68] H : R))
noncomputable def r54_10 (k : KT R) : KT R := fun fr H => opn 15 fr (fun s0 s2 s3 s4 s5 s6 s7 s8 s11 s26 s37 s41 s52 s62 s68 => 
(k [s0, s2, s3, s4, s5, s6, s7, s8, s11, s26, s6, s41, s52, s62, s68] H : R))
noncomputable def r54_9 (C : CallF) (k : KT R) : KT R := fun fr H => opn 15 fr (fun s0 s2 s3 s4 s5 s6 s7 s8 s11 s26 s37 s41 s52 s62 s68 => 
(qRes (C 48 [s0, (.str [46])] H) fun v34 H =>
qExt v34 0 fun v35 =>
qExt v34 1 fun v36 =>
k [s0, s2, s3, s4, v35, v36, s7, s8, s11, s26, s37, s41, s52, s62, s68] H : R))
noncomputable def r54_8 (k : KT R) : KT R := fun fr H => opn 15 fr (fun s0 s2 s3 s4 s5 s6 s7 s8 s11 s26 s37 s41 s52 s62 s68 => 
(qEql X 9 s0 (.str []) fun v31 =>
k [s0, v31, s3, s4, s5, s6, s7, s8, s11, s26, s37, s41, s52, s62, s68] H : R))
noncomputable def r54_7 (k : KT R) : KT R := fun fr H => opn 15 fr (fun s0 s2 s3 s4 s5 s6 s7 s8 s11 s26 s37 s41 s52 s62 s68 => 
(qSlc Tryd.t9.desc 0 s0 (some s4) none none fun v29 =>
k [v29, s2, s3, s4, s5, s6, s7, s8, s11, s26, s37, s41, s52, s62, s68] H : R))
noncomputable def r54_6 (k : KT R) : KT R := fun fr H => opn 15 fr (fun s0 s2 s3 s4 s5 s6 s7 s8 s11 s26 s37 s41 s52 s62 s68 => 
(k [s0, (.bool false), (.bool false), s4, s5, s6, s7, s8, s11, s26, s37, s41, s52, s62, s68] H : R))
noncomputable def r54_5 (k : KT R) : KT R := fun fr H => opn 15 fr (fun s0 s2 s3 s4 s5 s6 s7 s8 s11 s26 s37 s41 s52 s62 s68 => 
(qEql X 3 s4 (.int .i64 0) fun v17 =>
qG v17 false (fun k => k s4 H) H fun v19 H =>
qG v17 false (fun k => qGtr X 3 v19 (.int .i64 1) fun v => k v H) H fun v20 H =>
qG v17 false (fun k => k v20 H) H fun v21 H =>
qG v21 true (fun k => k s0 H) H fun v22 H =>
qG v21 true (fun k => qIx v22 (.int .i64 0) fun v => k v H) H fun v23 H =>
qG v21 true (fun k => qEql X 5 v23 (.int .u8 48) fun v => k v H) H fun v24 H =>
qG v17 false (fun k => qPick v21 v24 (.bool false) fun v => k v H) H fun v25 H =>
qPick v17 (.bool true) v25 fun v26 =>
k [s0, s2, s3, s4, s5, s6, s7, s8, s11, v26, s37, s41, s52, s62, s68] H : R))
noncomputable def r54_4 (C : CallF) (k : KT R) : KT R := fun fr H => opn 15 fr (fun s0 s2 s3 s4 s5 s6 s7 s8 s11 s26 s37 s41 s52 s62 s68 => 
(qRes (C 70 [s0] H) fun v15 H =>
k [s0, s2, s3, v15, s5, s6, s7, s8, s11, s26, s37, s41, s52, s62, s68] H : R))
noncomputable def r54_3 (C : CallF) (k : KT R) : KT R := fun fr H => opn 15 fr (fun s0 s2 s3 s4 s5 s6 s7 s8 s11 s26 s37 s41 s52 s62 s68 => 
(qRes (C 69 [s0, (.str [45])] H) fun v13 H =>
k [v13, s2, s3, s4, s5, s6, s7, s8, s11, s26, s37, s41, s52, s62, s68] H : R))
noncomputable def r54_2 (k : KT R) : KT R := fun fr H => opn 15 fr (fun s0 s2 s3 s4 s5 s6 s7 s8 s11 s26 s37 s41 s52 s62 s68 => 
(k [s0, (.bool false), (.bool false), s4, s5, s6, s7, s8, s11, s26, s37, s41, s52, s62, s68] H : R))
noncomputable def r54_1 (k : KT R) : KT R := fun fr H => opn 15 fr (fun s0 s2 s3 s4 s5 s6 s7 s8 s11 s26 s37 s41 s52 s62 s68 => 
(qLenS s0 fun v10 =>
qGtr X 3 v10 (.int .i64 40) fun v11 =>
k [s0, s2, s3, s4, s5, s6, s7, s8, v11, s26, s37, s41, s52, s62, s68] H : R))
noncomputable def r54_0 (k : KT R) : KT R := fun fr H => opn 15 fr (fun s0 s2 s3 s4 s5 s6 s7 s8 s11 s26 s37 s41 s52 s62 s68 => 
(k [s0, (.bool false), (.bool false), s4, s5, s6, s7, s8, s11, s26, s37, s41, s52, s62, s68] H : R))
noncomputable def c54 (C : CallF) (l0 : List AV) (H : AH) (k : AV → AH → R) : R := opn 1 l0 (fun x0 => (qFn (fun kr => (r54_0 (r54_1 (qCd (sel 8) (fun _ => (r54_2 kr)) (fun k7 => k7) (r54_3 C (r54_4 C (r54_5 (qCd (sel 9) (fun _ => (r54_6 kr)) (fun k6 => k6) (r54_7 (r54_8 (r54_9 C (r54_10 (qCd (sel 10) (fun k4 => (r54_11 C (r54_12 (qCd (sel 11) (fun _ => (r54_13 kr)) (fun k5 => k5) (r54_14 k4))))) (fun k4 => k4) (r54_15 C (qCd (sel 12) (fun k1 => (r54_16 (r54_17 C (qCd (sel 13) (fun k3 => (r54_18 k3)) (fun k3 => k3) (r54_19 C (r54_20 (qCd (sel 14) (fun _ => (r54_21 kr)) (fun k2 => k2) (r54_22 k1)))))))) (fun k1 => k1) (r54_23 kr))))))))))))))))
(fun fr H => k (.tup [(sel 1 fr), (sel 2 fr)]) H) [x0, Aes.undef, Aes.undef, Aes.undef, Aes.undef, Aes.undef, Aes.undef, Aes.undef, Aes.undef, Aes.undef, Aes.undef, Aes.undef, Aes.undef, Aes.undef, Aes.undef] H : R))
/- strings.makeASCIISet -/
noncomputable def r56_8 (k : KT R) : KT R := fun fr H => opn 7 fr (fun s0 s2 s3 s4 s5 s9 s16 => 
(qLdA 256 s2 H fun v20 =>
qSt 256 s2 v20 H fun _ H =>
k [s0, s2, (.bool true), s4, s5, s9, s16] H : R))
noncomputable def r56_3 (k : KT R) : KT R := fun fr H => opn 7 fr (fun s0 s2 s3 s4 s5 s9 s16 => 
(qAdd X 3 s4 (.int .i64 1) fun v11 =>
k [s0, s2, s3, v11, s5, s9, s16] H : R))
noncomputable def r56_7 (k : KT R) : KT R := fun fr H => opn 7 fr (fun s0 s2 s3 s4 s5 s9 s16 => 
(qIaA 256 1 s2 s5 fun v19 =>
qSt 1 v19 (.bool true) H fun _ H =>
k [s0, s2, s3, s4, s5, s9, s16] H : R))
noncomputable def r56_6 (k : KT R) : KT R := fun fr H => opn 7 fr (fun s0 s2 s3 s4 s5 s9 s16 => 
(qLdA 256 s2 H fun v17 =>
qSt 256 s2 v17 H fun _ H =>
k [s0, s2, (.bool false), s4, s5, s9, s16] H : R))
noncomputable def r56_5 (k : KT R) : KT R := fun fr H => opn 7 fr (fun s0 s2 s3 s4 s5 s9 s16 => 
(qGeq X 5 s5 (.int .u8 128) fun v16 =>
k [s0, s2, s3, s4, s5, s9, v16] H : R))
noncomputable def r56_4 (k : KT R) : KT R := fun fr H => opn 7 fr (fun s0 s2 s3 s4 s5 s9 s16 => 
(qIx s0 s4 fun v14 =>
k [s0, s2, s3, s4, v14, s9, s16] H : R))
noncomputable def r56_2 (k : KT R) : KT R := fun fr H => opn 7 fr (fun s0 s2 s3 s4 s5 s9 s16 => 
(qLenS s0 fun v8 =>
qLss X 3 s4 v8 fun v9 =>
k [s0, s2, s3, s4, s5, v9, s16] H : R))
noncomputable def l56_5 (k1 : KT R) (kr : KT R) : KT R → KT R := fun k2 => (r56_2 (qCd (sel 5) (fun k5 => k5) (fun _ => k1) (qBl (fun k3 => (r56_4 (r56_5 (qCd (sel 6) (fun _ => (r56_6 kr)) (fun k4 => k4) (r56_7 k3))))) (r56_3 k2))))
noncomputable def r56_1 (k : KT R) : KT R := fun fr H => opn 7 fr (fun s0 s2 s3 s4 s5 s9 s16 => 
(k [s0, s2, s3, (.int .i64 0), s5, s9, s16] H : R))
noncomputable def r56_0 (k : KT R) : KT R := fun fr H => opn 7 fr (fun s0 s2 s3 s4 s5 s9 s16 => 
(qNew (.cells z81) .ptr H fun v2 H =>
k [s0, v2, (.bool false), s4, s5, s9, s16] H : R))
noncomputable def c56 (C : CallF) (l0 : List AV) (H : AH) (k : AV → AH → R) : R := opn 1 l0 (fun x0 => (qFn (fun kr => (r56_0 (r56_1 (qBl (fun k1 => (qLoop (l56_5 k1 kr))) (r56_8 kr)))))
(fun fr H => qPtr (sel 1 fr) (qLdA 256 (sel 1 fr) H fun w0 => k (.tup [w0, (sel 2 fr)]) H)) [x0, Aes.undef, Aes.undef, Aes.undef, Aes.undef, Aes.undef, Aes.undef] H : R))
/- strings.trimLeftASCII -/
noncomputable def r57_4 (k : KT R) : KT R := fun fr H => opn 5 fr (fun s0 s1 s4 s7 s12 => 
(k [s0, s1, s0, s7, s12] H : R))
noncomputable def r57_3 (k : KT R) : KT R := fun fr H => opn 5 fr (fun s0 s1 s4 s7 s12 => 
(qSlc Tryd.t9.desc 0 s0 (some (.int .i64 1)) none none fun v14 =>
k [v14, s1, s4, s7, s12] H : R))
noncomputable def r57_2 (C : CallF) (k : KT R) : KT R := fun fr H => opn 5 fr (fun s0 s1 s4 s7 s12 => 
(qIx s0 (.int .i64 0) fun v10 =>
qRes (C 71 [s1, v10] H) fun v11 H =>
qNot v11 fun v12 =>
k [s0, s1, s4, s7, v12] H : R))
noncomputable def r57_1 (k : KT R) : KT R := fun fr H => opn 5 fr (fun s0 s1 s4 s7 s12 => 
(qLenS s0 fun v6 =>
qGtr X 3 v6 (.int .i64 0) fun v7 =>
k [s0, s1, s4, v7, s12] H : R))
noncomputable def l57_5 (C : CallF) (k1 : KT R) : KT R → KT R := fun k2 => (r57_1 (qCd (sel 3) (fun k5 => k5) (fun _ => k1) (qBl (fun k3 => (r57_2 C (qCd (sel 4) (fun _ => k1) (fun k4 => k4) (r57_3 k3)))) k2)))
noncomputable def r57_0 (k : KT R) : KT R := fun fr H => opn 5 fr (fun s0 s1 s4 s7 s12 => 
(k [s0, s1, (.str []), s7, s12] H : R))
noncomputable def c57 (C : CallF) (l0 : List AV) (H : AH) (k : AV → AH → R) : R := opn 2 l0 (fun x0 x1 => (qFn (fun kr => (r57_0 (qBl (fun k1 => (qLoop (l57_5 C k1))) (r57_4 kr))))
(fun fr H => k (sel 2 fr) H) [x0, x1, Aes.undef, Aes.undef, Aes.undef] H : R))
/- internal/stringslite.CutPrefix -/
noncomputable def r62_3 (k : KT R) : KT R := fun fr H => opn 5 fr (fun s0 s1 s4 s5 s9 => 
(qLenS s1 fun v13 =>
qSlc Tryd.t9.desc 0 s0 (some v13) none none fun v14 =>
k [s0, s1, v14, (.bool true), s9] H : R))
noncomputable def r62_2 (k : KT R) : KT R := fun fr H => opn 5 fr (fun s0 s1 s4 s5 s9 => 
(k [s0, s1, s0, (.bool false), s9] H : R))
noncomputable def r62_1 (C : CallF) (k : KT R) : KT R := fun fr H => opn 5 fr (fun s0 s1 s4 s5 s9 => 
(qRes (C 49 [s0, s1] H) fun v8 H =>
qNot v8 fun v9 =>
k [s0, s1, s4, s5, v9] H : R))
noncomputable def r62_0 (k : KT R) : KT R := fun fr H => opn 5 fr (fun s0 s1 s4 s5 s9 => 
(k [s0, s1, (.str []), (.bool false), s9] H : R))
noncomputable def c62 (C : CallF) (l0 : List AV) (H : AH) (k : AV → AH → R) : R := opn 2 l0 (fun x0 x1 => (qFn (fun kr => (r62_0 (r62_1 C (qCd (sel 4) (fun _ => (r62_2 kr)) (fun k1 => k1) (r62_3 kr)))))
(fun fr H => k (.tup [(sel 2 fr), (sel 3 fr)]) H) [x0, x1, Aes.undef, Aes.undef, Aes.undef] H : R))
/- refectory/runes.Valid -/
noncomputable def r63_1 (C : CallF) (k : KT R) : KT R := fun fr H => opn 2 fr (fun s0 s2 => 
(qRes (C 76 [s0] H) fun v4 H =>
k [s0, v4] H : R))
noncomputable def r63_0 (k : KT R) : KT R := fun fr H => opn 2 fr (fun s0 s2 => 
(k [s0, (.bool false)] H : R))
noncomputable def c63 (C : CallF) (l0 : List AV) (H : AH) (k : AV → AH → R) : R := opn 1 l0 (fun x0 => (qFn (fun kr => (r63_0 (r63_1 C kr)))
(fun fr H => k (sel 1 fr) H) [x0, Aes.undef] H : R))
/- (*strings.Builder).WriteRune -/
noncomputable def r64_4 (k : KT R) : KT R := fun fr H => opn 5 fr (fun s0 s1 s4 s5 s6 => 
(qNc s0 fun v24 =>
qFa 1 v24 fun v25 =>
qLd v25 H fun v26 =>
qLenL v26 fun v27 =>
qSub X 3 v27 s6 fun v29 =>
k [s0, s1, v29, (.nilif), s6] H : R))
noncomputable def r64_3 (C : CallF) (k : KT R) : KT R := fun fr H => opn 5 fr (fun s0 s1 s4 s5 s6 => 
(qNc s0 fun v16 =>
qFa 1 v16 fun v17 =>
qLd v17 H fun v18 =>
qRes (C 78 [v18, s1] H) fun v20 H =>
qNc s0 fun v21 =>
qFa 1 v21 fun v22 =>
qSt 1 v22 v20 H fun _ H =>
k [s0, s1, s4, s5, s6] H : R))
noncomputable def r64_2 (k : KT R) : KT R := fun fr H => opn 5 fr (fun s0 s1 s4 s5 s6 => 
(qNc s0 fun v10 =>
qFa 1 v10 fun v11 =>
qLd v11 H fun v12 =>
qLenL v12 fun v13 =>
k [s0, s1, s4, s5, v13] H : R))
noncomputable def r64_1 (C : CallF) (k : KT R) : KT R := fun fr H => opn 5 fr (fun s0 s1 s4 s5 s6 => 
(qRes (C 77 [s0] H) fun v8 H =>
k [s0, s1, s4, s5, s6] H : R))
noncomputable def r64_0 (k : KT R) : KT R := fun fr H => opn 5 fr (fun s0 s1 s4 s5 s6 => 
(k [s0, s1, (.int .i64 0), (.nilif), s6] H : R))
noncomputable def c64 (C : CallF) (l0 : List AV) (H : AH) (k : AV → AH → R) : R := opn 2 l0 (fun x0 x1 => (qFn (fun kr => (r64_0 (r64_1 C (r64_2 (r64_3 C (r64_4 kr))))))
(fun fr H => k (.tup [(sel 2 fr), (sel 3 fr)]) H) [x0, x1, Aes.undef, Aes.undef, Aes.undef] H : R))
/- refectory/runes.point -/
noncomputable def r65_9 (k : KT R) : KT R := fun fr H => opn 8 fr (fun s0 s2 s3 s4 s5 s13 s22 s31 => 
(qSub X 21 s4 (.int .i32 55296) fun v33 =>
qO (binop X .shl 21 v33 (.int .u64 10)) fun v34 =>
qSub X 21 s5 (.int .i32 56320) fun v36 =>
qAdd X 21 v34 v36 fun v37 =>
qAdd X 21 v37 (.int .i32 65536) fun v38 =>
k [s0, v38, (.int .i64 10), s4, s5, s13, s22, s31] H : R))
noncomputable def r65_8 (k : KT R) : KT R := fun fr H => opn 8 fr (fun s0 s2 s3 s4 s5 s13 s22 s31 => 
(k [s0, (.int .i32 (-1)), (.int .i64 0), s4, s5, s13, s22, s31] H : R))
noncomputable def r65_7 (k : KT R) : KT R := fun fr H => opn 8 fr (fun s0 s2 s3 s4 s5 s13 s22 s31 => 
(qLss X 21 s5 (.int .i32 56320) fun v27 =>
qG v27 false (fun k => k s5 H) H fun v29 H =>
qG v27 false (fun k => qGeq X 21 v29 (.int .i32 57344) fun v => k v H) H fun v30 H =>
qPick v27 (.bool true) v30 fun v31 =>
k [s0, s2, s3, s4, s5, s13, s22, v31] H : R))
noncomputable def r65_6 (C : CallF) (k : KT R) : KT R := fun fr H => opn 8 fr (fun s0 s2 s3 s4 s5 s13 s22 s31 => 
(qSlc Tryd.t9.desc 0 s0 (some (.int .i64 6)) none none fun v24 =>
qRes (C 79 [v24] H) fun v25 H =>
k [s0, s2, s3, s4, v25, s13, s22, s31] H : R))
noncomputable def r65_5 (k : KT R) : KT R := fun fr H => opn 8 fr (fun s0 s2 s3 s4 s5 s13 s22 s31 => 
(k [s0, (.int .i32 (-1)), (.int .i64 0), s4, s5, s13, s22, s31] H : R))
noncomputable def r65_4 (C : CallF) (k : KT R) : KT R := fun fr H => opn 8 fr (fun s0 s2 s3 s4 s5 s13 s22 s31 => 
(qGeq X 21 s4 (.int .i32 56320) fun v16 =>
qG v16 false (fun k => k s0 H) H fun v18 H =>
qG v16 false (fun k => qSlc Tryd.t9.desc 0 v18 (some (.int .i64 4)) none none fun v => k v H) H fun v19 H =>
qG v16 false (fun k => qRes (C 38 [v19, (.str [92,117])] H) k) H fun v20 H =>
qG v16 false (fun k => qNot v20 fun v => k v H) H fun v21 H =>
qPick v16 (.bool true) v21 fun v22 =>
k [s0, s2, s3, s4, s5, s13, v22, s31] H : R))
noncomputable def r65_3 (k : KT R) : KT R := fun fr H => opn 8 fr (fun s0 s2 s3 s4 s5 s13 s22 s31 => 
(k [s0, s4, (.int .i64 4), s4, s5, s13, s22, s31] H : R))
noncomputable def r65_2 (k : KT R) : KT R := fun fr H => opn 8 fr (fun s0 s2 s3 s4 s5 s13 s22 s31 => 
(qLss X 21 s4 (.int .i32 55296) fun v9 =>
qG v9 false (fun k => k s4 H) H fun v11 H =>
qG v9 false (fun k => qGeq X 21 v11 (.int .i32 57344) fun v => k v H) H fun v12 H =>
qPick v9 (.bool true) v12 fun v13 =>
k [s0, s2, s3, s4, s5, v13, s22, s31] H : R))
noncomputable def r65_1 (C : CallF) (k : KT R) : KT R := fun fr H => opn 8 fr (fun s0 s2 s3 s4 s5 s13 s22 s31 => 
(qRes (C 79 [s0] H) fun v7 H =>
k [s0, s2, s3, v7, s5, s13, s22, s31] H : R))
noncomputable def r65_0 (k : KT R) : KT R := fun fr H => opn 8 fr (fun s0 s2 s3 s4 s5 s13 s22 s31 => 
(k [s0, (.int .i32 0), (.int .i64 0), s4, s5, s13, s22, s31] H : R))
noncomputable def c65 (C : CallF) (l0 : List AV) (H : AH) (k : AV → AH → R) : R := opn 1 l0 (fun x0 => (qFn (fun kr => (r65_0 (r65_1 C (r65_2 (qCd (sel 5) (fun _ => (r65_3 kr)) (fun k3 => k3) (r65_4 C (qCd (sel 6) (fun _ => (r65_5 kr)) (fun k2 => k2) (r65_6 C (r65_7 (qCd (sel 7) (fun _ => (r65_8 kr)) (fun k1 => k1) (r65_9 kr)))))))))))
(fun fr H => k (.tup [(sel 1 fr), (sel 2 fr)]) H) [x0, Aes.undef, Aes.undef, Aes.undef, Aes.undef, Aes.undef, Aes.undef, Aes.undef] H : R))
/- (*strings.Builder).WriteByte -/
noncomputable def r66_3 (k : KT R) : KT R := fun fr H => opn 3 fr (fun s0 s1 s4 => 
(k [s0, s1, (.nilif)] H : R))
noncomputable def r66_2 (k : KT R) : KT R := fun fr H => opn 3 fr (fun s0 s1 s4 => 
(qNc s0 fun v9 =>
qFa 1 v9 fun v10 =>
qLd v10 H fun v11 =>
qRows z5 1 [(0, s1)] fun v13 =>
qApp 1 1 v11 v13 true (some 5) H fun v14 H =>
qNc s0 fun v15 =>
qFa 1 v15 fun v16 =>
qSt 1 v16 v14 H fun _ H =>
k [s0, s1, s4] H : R))
noncomputable def r66_1 (C : CallF) (k : KT R) : KT R := fun fr H => opn 3 fr (fun s0 s1 s4 => 
(qRes (C 77 [s0] H) fun v6 H =>
k [s0, s1, s4] H : R))
noncomputable def r66_0 (k : KT R) : KT R := fun fr H => opn 3 fr (fun s0 s1 s4 => 
(k [s0, s1, (.nilif)] H : R))
noncomputable def c66 (C : CallF) (l0 : List AV) (H : AH) (k : AV → AH → R) : R := opn 2 l0 (fun x0 x1 => (qFn (fun kr => (r66_0 (r66_1 C (r66_2 (r66_3 kr)))))
(fun fr H => k (sel 2 fr) H) [x0, x1, Aes.undef] H : R))
/- strings.TrimPrefix -/
noncomputable def r69_1 (C : CallF) (k : KT R) : KT R := fun fr H => opn 3 fr (fun s0 s1 s4 => 
(qRes (C 81 [s0, s1] H) fun v7 H =>
k [s0, s1, v7] H : R))
noncomputable def r69_0 (k : KT R) : KT R := fun fr H => opn 3 fr (fun s0 s1 s4 => 
(k [s0, s1, (.str [])] H : R))
noncomputable def c69 (C : CallF) (l0 : List AV) (H : AH) (k : AV → AH → R) : R := opn 2 l0 (fun x0 x1 => (qFn (fun kr => (r69_0 (r69_1 C kr)))
(fun fr H => k (sel 2 fr) H) [x0, x1, Aes.undef] H : R))
/- refectory/jval.digits -/
noncomputable def r70_1 (C : CallF) (k : KT R) : KT R := fun fr H => opn 2 fr (fun s0 s2 => 
(qLenS s0 fun v4 =>
qRes (C 41 [s0, (.str [48,49,50,51,52,53,54,55,56,57])] H) fun v6 H =>
qLenS v6 fun v7 =>
qSub X 3 v4 v7 fun v8 =>
k [s0, v8] H : R))
noncomputable def r70_0 (k : KT R) : KT R := fun fr H => opn 2 fr (fun s0 s2 => 
(k [s0, (.int .i64 0)] H : R))
noncomputable def c70 (C : CallF) (l0 : List AV) (H : AH) (k : AV → AH → R) : R := opn 1 l0 (fun x0 => (qFn (fun kr => (r70_0 (r70_1 C kr)))
(fun fr H => k (sel 1 fr) H) [x0, Aes.undef] H : R))
/- (*strings.asciiSet).contains -/
noncomputable def r71_1 (k : KT R) : KT R := fun fr H => opn 3 fr (fun s0 s1 s4 => 
(qNc s0 fun v7 =>
qIaA 256 1 v7 s1 fun v8 =>
qLd v8 H fun v9 =>
k [s0, s1, v9] H : R))
noncomputable def r71_0 (k : KT R) : KT R := fun fr H => opn 3 fr (fun s0 s1 s4 => 
(k [s0, s1, (.bool false)] H : R))
noncomputable def c71 (C : CallF) (l0 : List AV) (H : AH) (k : AV → AH → R) : R := opn 2 l0 (fun x0 x1 => (qFn (fun kr => (r71_0 (r71_1 kr)))
(fun fr H => k (sel 2 fr) H) [x0, x1, Aes.undef] H : R))
/- unicode/utf8.AppendRune -/
noncomputable def r78_3 (C : CallF) (k : KT R) : KT R := fun fr H => opn 4 fr (fun s0 s1 s4 s7 => 
(qRes (C 86 [s0, s1] H) fun v15 H =>
k [s0, s1, v15, s7] H : R))
noncomputable def r78_2 (k : KT R) : KT R := fun fr H => opn 4 fr (fun s0 s1 s4 s7 => 
(qConvI .u8 s1 fun v10 =>
qRows z5 1 [(0, v10)] fun v11 =>
qApp 1 1 s0 v11 true (some 5) H fun v12 H =>
k [s0, s1, v12, s7] H : R))
noncomputable def r78_1 (k : KT R) : KT R := fun fr H => opn 4 fr (fun s0 s1 s4 s7 => 
(qConvI .u32 s1 fun v6 =>
qLeq X 115 v6 (.int .u32 127) fun v7 =>
k [s0, s1, s4, v7] H : R))
noncomputable def r78_0 (k : KT R) : KT R := fun fr H => opn 4 fr (fun s0 s1 s4 s7 => 
(k [s0, s1, (.sl [] .nil), s7] H : R))
noncomputable def c78 (C : CallF) (l0 : List AV) (H : AH) (k : AV → AH → R) : R := opn 2 l0 (fun x0 x1 => (qFn (fun kr => (r78_0 (r78_1 (qCd (sel 3) (fun _ => (r78_2 kr)) (fun k1 => k1) (r78_3 C kr)))))
(fun fr H => k (sel 2 fr) H) [x0, x1, Aes.undef, Aes.undef] H : R))
/- refectory/runes.four -/
noncomputable def r79_11 (k : KT R) : KT R := fun fr H => opn 10 fr (fun s0 s2 s3 s5 s6 s9 s13 s14 s15 s20 => 
(k [s0, s3, s3, s5, s6, s9, s13, s14, s15, s20] H : R))
noncomputable def r79_10 (k : KT R) : KT R := fun fr H => opn 10 fr (fun s0 s2 s3 s5 s6 s9 s13 s14 s15 s20 => 
(qO (binop X .shl 21 s3 (.int .u64 4)) fun v22 =>
qConvI .i32 s6 fun v24 =>
qO (binop X .or 21 v22 v24) fun v25 =>
k [s0, s2, v25, s5, s6, s9, s13, s14, s15, s20] H : R))
noncomputable def r79_9 (k : KT R) : KT R := fun fr H => opn 10 fr (fun s0 s2 s3 s5 s6 s9 s13 s14 s15 s20 => 
(k [s0, (.int .i32 (-1)), s3, s5, s6, s9, s13, s14, s15, s20] H : R))
noncomputable def r79_8 (k : KT R) : KT R := fun fr H => opn 10 fr (fun s0 s2 s3 s5 s6 s9 s13 s14 s15 s20 => 
(qLss X 3 s6 (.int .i64 0) fun v20 =>
k [s0, s2, s3, s5, s6, s9, s13, s14, s15, v20] H : R))
noncomputable def r79_7 (C : CallF) (k : KT R) : KT R := fun fr H => opn 10 fr (fun s0 s2 s3 s5 s6 s9 s13 s14 s15 s20 => 
(qRes (C 83 [(.str [48,49,50,51,52,53,54,55,56,57,97,98,99,100,101,102]), s5] H) fun v18 H =>
k [s0, s2, s3, s5, v18, s9, s13, s14, s15, s20] H : R))
noncomputable def r79_6 (k : KT R) : KT R := fun fr H => opn 10 fr (fun s0 s2 s3 s5 s6 s9 s13 s14 s15 s20 => 
(qExt s14 2 fun v16 =>
k [s0, s2, s3, v16, s6, s9, s13, s14, s15, s20] H : R))
noncomputable def r79_5 (k : KT R) : KT R := fun fr H => opn 10 fr (fun s0 s2 s3 s5 s6 s9 s13 s14 s15 s20 => 
(qNext s13 H fun v14 H =>
qExt v14 0 fun v15 =>
k [s0, s2, s3, s5, s6, s9, s13, v14, v15, s20] H : R))
noncomputable def l79_5 (C : CallF) (k1 : KT R) (kr : KT R) : KT R → KT R := fun k2 => (r79_5 (qCd (sel 8) (fun k5 => k5) (fun _ => k1) (qBl (fun k3 => (r79_6 (r79_7 C (r79_8 (qCd (sel 9) (fun _ => (r79_9 kr)) (fun k4 => k4) (r79_10 k3)))))) k2)))
noncomputable def r79_4 (C : CallF) (k : KT R) : KT R := fun fr H => opn 10 fr (fun s0 s2 s3 s5 s6 s9 s13 s14 s15 s20 => 
(qSlc Tryd.t9.desc 0 s0 none (some (.int .i64 4)) none fun v11 =>
qRes (C 87 [v11] H) fun v12 H =>
qRange v12 H fun v13 H =>
k [s0, s2, s3, s5, s6, s9, v13, s14, s15, s20] H : R))
noncomputable def r79_3 (k : KT R) : KT R := fun fr H => opn 10 fr (fun s0 s2 s3 s5 s6 s9 s13 s14 s15 s20 => 
(k [s0, s2, (.int .i32 0), s5, s6, s9, s13, s14, s15, s20] H : R))
noncomputable def r79_2 (k : KT R) : KT R := fun fr H => opn 10 fr (fun s0 s2 s3 s5 s6 s9 s13 s14 s15 s20 => 
(k [s0, (.int .i32 (-1)), s3, s5, s6, s9, s13, s14, s15, s20] H : R))
noncomputable def r79_1 (k : KT R) : KT R := fun fr H => opn 10 fr (fun s0 s2 s3 s5 s6 s9 s13 s14 s15 s20 => 
(qLenS s0 fun v8 =>
qLss X 3 v8 (.int .i64 4) fun v9 =>
k [s0, s2, s3, s5, s6, v9, s13, s14, s15, s20] H : R))
noncomputable def r79_0 (k : KT R) : KT R := fun fr H => opn 10 fr (fun s0 s2 s3 s5 s6 s9 s13 s14 s15 s20 => 
(k [s0, (.int .i32 0), s3, s5, s6, s9, s13, s14, s15, s20] H : R))
noncomputable def c79 (C : CallF) (l0 : List AV) (H : AH) (k : AV → AH → R) : R := opn 1 l0 (fun x0 => (qFn (fun kr => (r79_0 (r79_1 (qCd (sel 5) (fun _ => (r79_2 kr)) (fun k6 => k6) (r79_3 (r79_4 C (qBl (fun k1 => (qLoop (l79_5 C k1 kr))) (r79_11 kr))))))))
(fun fr H => k (sel 1 fr) H) [x0, Aes.undef, Aes.undef, Aes.undef, Aes.undef, Aes.undef, Aes.undef, Aes.undef, Aes.undef, Aes.undef] H : R))
/- internal/stringslite.TrimPrefix -/
noncomputable def r81_3 (k : KT R) : KT R := fun fr H => opn 4 fr (fun s0 s1 s4 s7 => 
(k [s0, s1, s0, s7] H : R))
noncomputable def r81_2 (k : KT R) : KT R := fun fr H => opn 4 fr (fun s0 s1 s4 s7 => 
(qLenS s1 fun v10 =>
qSlc Tryd.t9.desc 0 s0 (some v10) none none fun v11 =>
k [s0, s1, v11, s7] H : R))
noncomputable def r81_1 (C : CallF) (k : KT R) : KT R := fun fr H => opn 4 fr (fun s0 s1 s4 s7 => 
(qRes (C 49 [s0, s1] H) fun v7 H =>
k [s0, s1, s4, v7] H : R))
noncomputable def r81_0 (k : KT R) : KT R := fun fr H => opn 4 fr (fun s0 s1 s4 s7 => 
(k [s0, s1, (.str []), s7] H : R))
noncomputable def c81 (C : CallF) (l0 : List AV) (H : AH) (k : AV → AH → R) : R := opn 2 l0 (fun x0 x1 => (qFn (fun kr => (r81_0 (r81_1 C (qCd (sel 3) (fun _ => (r81_2 kr)) (fun k1 => k1) (r81_3 kr)))))
(fun fr H => k (sel 2 fr) H) [x0, x1, Aes.undef, Aes.undef] H : R))
/- strings.IndexRune -/
noncomputable def r83_35 (C : CallF) (k : KT R) : KT R := fun fr H => opn 33 fr (fun s0 s1 s4 s5 s6 s7 s8 s9 s10 s11 s12 s13 s14 s15 s16 s26 s33 s43 s51 s64 s98 s108 s124 s139 s143 s156 s160 s171 s175 s176 s177 s181 s183 => 
(qConvI .u8 s1 fun v169 =>
qRes (C 53 [s0, v169] H) fun v170 H =>
k [s0, s1, v170, s5, s6, s7, s8, s9, s10, s11, s12, s13, s14, s15, s16, s26, s33, s43, s51, s64, s98, s108, s124, s139, s143, s156, s160, s171, s175, s176, s177, s181, s183] H : R))
noncomputable def r83_42 (k : KT R) : KT R := fun fr H => opn 33 fr (fun s0 s1 s4 s5 s6 s7 s8 s9 s10 s11 s12 s13 s14 s15 s16 s26 s33 s43 s51 s64 s98 s108 s124 s139 s143 s156 s160 s171 s175 s176 s177 s181 s183 => 
(k [s0, s1, (.int .i64 (-1)), s5, s6, s7, s8, s9, s10, s11, s12, s13, s14, s15, s16, s26, s33, s43, s51, s64, s98, s108, s124, s139, s143, s156, s160, s171, s175, s176, s177, s181, s183] H : R))
noncomputable def r83_41 (k : KT R) : KT R := fun fr H => opn 33 fr (fun s0 s1 s4 s5 s6 s7 s8 s9 s10 s11 s12 s13 s14 s15 s16 s26 s33 s43 s51 s64 s98 s108 s124 s139 s143 s156 s160 s171 s175 s176 s177 s181 s183 => 
(k [s0, s1, s5, s5, s6, s7, s8, s9, s10, s11, s12, s13, s14, s15, s16, s26, s33, s43, s51, s64, s98, s108, s124, s139, s143, s156, s160, s171, s175, s176, s177, s181, s183] H : R))
noncomputable def r83_40 (k : KT R) : KT R := fun fr H => opn 33 fr (fun s0 s1 s4 s5 s6 s7 s8 s9 s10 s11 s12 s13 s14 s15 s16 s26 s33 s43 s51 s64 s98 s108 s124 s139 s143 s156 s160 s171 s175 s176 s177 s181 s183 => 
(qEql X 21 s6 (.int .i32 65533) fun v181 =>
k [s0, s1, s4, s5, s6, s7, s8, s9, s10, s11, s12, s13, s14, s15, s16, s26, s33, s43, s51, s64, s98, s108, s124, s139, s143, s156, s160, s171, s175, s176, s177, v181, s183] H : R))
noncomputable def r83_39 (k : KT R) : KT R := fun fr H => opn 33 fr (fun s0 s1 s4 s5 s6 s7 s8 s9 s10 s11 s12 s13 s14 s15 s16 s26 s33 s43 s51 s64 s98 s108 s124 s139 s143 s156 s160 s171 s175 s176 s177 s181 s183 => 
(qExt s176 1 fun v178 =>
qExt s176 2 fun v179 =>
k [s0, s1, s4, v178, v179, s7, s8, s9, s10, s11, s12, s13, s14, s15, s16, s26, s33, s43, s51, s64, s98, s108, s124, s139, s143, s156, s160, s171, s175, s176, s177, s181, s183] H : R))
noncomputable def r83_38 (k : KT R) : KT R := fun fr H => opn 33 fr (fun s0 s1 s4 s5 s6 s7 s8 s9 s10 s11 s12 s13 s14 s15 s16 s26 s33 s43 s51 s64 s98 s108 s124 s139 s143 s156 s160 s171 s175 s176 s177 s181 s183 => 
(qNext s175 H fun v176 H =>
qExt v176 0 fun v177 =>
k [s0, s1, s4, s5, s6, s7, s8, s9, s10, s11, s12, s13, s14, s15, s16, s26, s33, s43, s51, s64, s98, s108, s124, s139, s143, s156, s160, s171, s175, v176, v177, s181, s183] H : R))
noncomputable def l83_8 (k4 : KT R) (kr : KT R) : KT R → KT R := fun k5 => (r83_38 (qCd (sel 30) (fun k8 => k8) (fun _ => k4) (qBl (fun k6 => (r83_39 (r83_40 (qCd (sel 31) (fun _ => (r83_41 kr)) (fun k7 => k7) k6)))) k5)))
noncomputable def r83_37 (k : KT R) : KT R := fun fr H => opn 33 fr (fun s0 s1 s4 s5 s6 s7 s8 s9 s10 s11 s12 s13 s14 s15 s16 s26 s33 s43 s51 s64 s98 s108 s124 s139 s143 s156 s160 s171 s175 s176 s177 s181 s183 => 
(qRange s0 H fun v175 H =>
k [s0, s1, s4, s5, s6, s7, s8, s9, s10, s11, s12, s13, s14, s15, s16, s26, s33, s43, s51, s64, s98, s108, s124, s139, s143, s156, s160, s171, v175, s176, s177, s181, s183] H : R))
noncomputable def r83_44 (k : KT R) : KT R := fun fr H => opn 33 fr (fun s0 s1 s4 s5 s6 s7 s8 s9 s10 s11 s12 s13 s14 s15 s16 s26 s33 s43 s51 s64 s98 s108 s124 s139 s143 s156 s160 s171 s175 s176 s177 s181 s183 => 
(k [s0, s1, (.int .i64 (-1)), s5, s6, s7, s8, s9, s10, s11, s12, s13, s14, s15, s16, s26, s33, s43, s51, s64, s98, s108, s124, s139, s143, s156, s160, s171, s175, s176, s177, s181, s183] H : R))
noncomputable def r83_33 (k : KT R) : KT R := fun fr H => opn 33 fr (fun s0 s1 s4 s5 s6 s7 s8 s9 s10 s11 s12 s13 s14 s15 s16 s26 s33 s43 s51 s64 s98 s108 s124 s139 s143 s156 s160 s171 s175 s176 s177 s181 s183 => 
(k [s0, s1, (.int .i64 (-1)), s5, s6, s7, s8, s9, s10, s11, s12, s13, s14, s15, s16, s26, s33, s43, s51, s64, s98, s108, s124, s139, s143, s156, s160, s171, s175, s176, s177, s181, s183] H : R))
noncomputable def r83_22 (k : KT R) : KT R := fun fr H => opn 33 fr (fun s0 s1 s4 s5 s6 s7 s8 s9 s10 s11 s12 s13 s14 s15 s16 s26 s33 s43 s51 s64 s98 s108 s124 s139 s143 s156 s160 s171 s175 s176 s177 s181 s183 => 
(qAdd X 3 s9 s13 fun v111 =>
qSub X 3 v111 s8 fun v113 =>
k [s0, s1, v113, s5, s6, s7, s8, s9, s10, s11, s12, s13, s14, s15, s16, s26, s33, s43, s51, s64, s98, s108, s124, s139, s143, s156, s160, s171, s175, s176, s177, s181, s183] H : R))
noncomputable def r83_21 (k : KT R) : KT R := fun fr H => opn 33 fr (fun s0 s1 s4 s5 s6 s7 s8 s9 s10 s11 s12 s13 s14 s15 s16 s26 s33 s43 s51 s64 s98 s108 s124 s139 s143 s156 s160 s171 s175 s176 s177 s181 s183 => 
(qGeq X 3 s13 (.int .i64 0) fun v108 =>
k [s0, s1, s4, s5, s6, s7, s8, s9, s10, s11, s12, s13, s14, s15, s16, s26, s33, s43, s51, s64, s98, v108, s124, s139, s143, s156, s160, s171, s175, s176, s177, s181, s183] H : R))
noncomputable def r83_20 (C : CallF) (k : KT R) : KT R := fun fr H => opn 33 fr (fun s0 s1 s4 s5 s6 s7 s8 s9 s10 s11 s12 s13 s14 s15 s16 s26 s33 s43 s51 s64 s98 s108 s124 s139 s143 s156 s160 s171 s175 s176 s177 s181 s183 => 
(qSub X 3 s9 s8 fun v102 =>
qSlc Tryd.t9.desc 0 s0 (some v102) none none fun v103 =>
qO (conv X 21 9 s1) fun v105 =>
qRes (C 90 [v103, v105] H) fun v106 H =>
k [s0, s1, s4, s5, s6, s7, s8, s9, s10, s11, s12, v106, s14, s15, s16, s26, s33, s43, s51, s64, s98, s108, s124, s139, s143, s156, s160, s171, s175, s176, s177, s181, s183] H : R))
noncomputable def r83_26 (k : KT R) : KT R := fun fr H => opn 33 fr (fun s0 s1 s4 s5 s6 s7 s8 s9 s10 s11 s12 s13 s14 s15 s16 s26 s33 s43 s51 s64 s98 s108 s124 s139 s143 s156 s160 s171 s175 s176 s177 s181 s183 => 
(qAdd X 3 s9 (.int .i64 1) fun v126 =>
k [s0, s1, s4, s5, s6, s7, s8, v126, s10, s11, s12, s13, s14, s15, s16, s26, s33, s43, s51, s64, s98, s108, s124, s139, s143, s156, s160, s171, s175, s176, s177, s181, s183] H : R))
noncomputable def r83_32 (k : KT R) : KT R := fun fr H => opn 33 fr (fun s0 s1 s4 s5 s6 s7 s8 s9 s10 s11 s12 s13 s14 s15 s16 s26 s33 s43 s51 s64 s98 s108 s124 s139 s143 s156 s160 s171 s175 s176 s177 s181 s183 => 
(qSub X 3 s9 s8 fun v159 =>
k [s0, s1, v159, s5, s6, s7, s8, s9, s10, s11, s12, s13, s14, s15, s16, s26, s33, s43, s51, s64, s98, s108, s124, s139, s143, s156, s160, s171, s175, s176, s177, s181, s183] H : R))
noncomputable def r83_30 (k : KT R) : KT R := fun fr H => opn 33 fr (fun s0 s1 s4 s5 s6 s7 s8 s9 s10 s11 s12 s13 s14 s15 s16 s26 s33 s43 s51 s64 s98 s108 s124 s139 s143 s156 s160 s171 s175 s176 s177 s181 s183 => 
(qAdd X 3 s16 (.int .i64 1) fun v145 =>
k [s0, s1, s4, s5, s6, s7, s8, s9, s10, s11, s12, s13, s14, s15, v145, s26, s33, s43, s51, s64, s98, s108, s124, s139, s143, s156, s160, s171, s175, s176, s177, s181, s183] H : R))
noncomputable def r83_31 (k : KT R) : KT R := fun fr H => opn 33 fr (fun s0 s1 s4 s5 s6 s7 s8 s9 s10 s11 s12 s13 s14 s15 s16 s26 s33 s43 s51 s64 s98 s108 s124 s139 s143 s156 s160 s171 s175 s176 s177 s181 s183 => 
(qSub X 3 s9 s16 fun v149 =>
qIx s0 v149 fun v150 =>
qSub X 3 s8 s16 fun v154 =>
qIx s7 v154 fun v155 =>
qNeq X 5 v150 v155 fun v156 =>
k [s0, s1, s4, s5, s6, s7, s8, s9, s10, s11, s12, s13, s14, s15, s16, s26, s33, s43, s51, s64, s98, s108, s124, s139, s143, v156, s160, s171, s175, s176, s177, s181, s183] H : R))
noncomputable def r83_29 (k : KT R) : KT R := fun fr H => opn 33 fr (fun s0 s1 s4 s5 s6 s7 s8 s9 s10 s11 s12 s13 s14 s15 s16 s26 s33 s43 s51 s64 s98 s108 s124 s139 s143 s156 s160 s171 s175 s176 s177 s181 s183 => 
(qLenS s7 fun v142 =>
qLss X 3 s16 v142 fun v143 =>
k [s0, s1, s4, s5, s6, s7, s8, s9, s10, s11, s12, s13, s14, s15, s16, s26, s33, s43, s51, s64, s98, s108, s124, s139, v143, s156, s160, s171, s175, s176, s177, s181, s183] H : R))
noncomputable def l83_20 (k14 : KT R) (k16 : KT R) : KT R → KT R := fun k17 => (r83_29 (qCd (sel 24) (fun k20 => k20) (fun _ => k16) (qBl (fun k18 => (r83_31 (qCd (sel 25) (fun _ => k14) (fun k19 => k19) k18))) (r83_30 k17))))
noncomputable def r83_28 (k : KT R) : KT R := fun fr H => opn 33 fr (fun s0 s1 s4 s5 s6 s7 s8 s9 s10 s11 s12 s13 s14 s15 s16 s26 s33 s43 s51 s64 s98 s108 s124 s139 s143 s156 s160 s171 s175 s176 s177 s181 s183 => 
(k [s0, s1, s4, s5, s6, s7, s8, s9, s10, s11, s12, s13, s14, s15, (.int .i64 2), s26, s33, s43, s51, s64, s98, s108, s124, s139, s143, s156, s160, s171, s175, s176, s177, s181, s183] H : R))
noncomputable def r83_27 (k : KT R) : KT R := fun fr H => opn 33 fr (fun s0 s1 s4 s5 s6 s7 s8 s9 s10 s11 s12 s13 s14 s15 s16 s26 s33 s43 s51 s64 s98 s108 s124 s139 s143 s156 s160 s171 s175 s176 s177 s181 s183 => 
(qIx s0 s9 fun v129 =>
qEql X 5 v129 s14 fun v131 =>
qG v131 true (fun k => k s0 H) H fun v133 H =>
qG v131 true (fun k => k s9 H) H fun v134 H =>
qG v131 true (fun k => qSub X 3 v134 (.int .i64 1) fun v => k v H) H fun v135 H =>
qG v131 true (fun k => qIx v133 v135 fun v => k v H) H fun v136 H =>
qG v131 true (fun k => k s15 H) H fun v137 H =>
qG v131 true (fun k => qEql X 5 v136 v137 fun v => k v H) H fun v138 H =>
qPick v131 v138 (.bool false) fun v139 =>
k [s0, s1, s4, s5, s6, s7, s8, s9, s10, s11, s12, s13, s14, s15, s16, s26, s33, s43, s51, s64, s98, s108, s124, v139, s143, s156, s160, s171, s175, s176, s177, s181, s183] H : R))
noncomputable def r83_25 (k : KT R) : KT R := fun fr H => opn 33 fr (fun s0 s1 s4 s5 s6 s7 s8 s9 s10 s11 s12 s13 s14 s15 s16 s26 s33 s43 s51 s64 s98 s108 s124 s139 s143 s156 s160 s171 s175 s176 s177 s181 s183 => 
(qLenS s0 fun v123 =>
qLss X 3 s9 v123 fun v124 =>
k [s0, s1, s4, s5, s6, s7, s8, s9, s10, s11, s12, s13, s14, s15, s16, s26, s33, s43, s51, s64, s98, s108, v124, s139, s143, s156, s160, s171, s175, s176, s177, s181, s183] H : R))
noncomputable def l83_21 (k12 : KT R) (kr : KT R) : KT R → KT R := fun k13 => (r83_25 (qCd (sel 22) (fun k21 => k21) (fun _ => k12) (qBl (fun k14 => (r83_27 (qCd (sel 23) (fun _ => (r83_28 (qBl (fun k16 => (qLoop (l83_20 k14 k16))) (r83_32 kr)))) (fun k15 => k15) k14))) (r83_26 k13))))
noncomputable def r83_24 (k : KT R) : KT R := fun fr H => opn 33 fr (fun s0 s1 s4 s5 s6 s7 s8 s9 s10 s11 s12 s13 s14 s15 s16 s26 s33 s43 s51 s64 s98 s108 s124 s139 s143 s156 s160 s171 s175 s176 s177 s181 s183 => 
(qSub X 3 s8 (.int .i64 1) fun v119 =>
qIx s7 v119 fun v120 =>
k [s0, s1, s4, s5, s6, s7, s8, s9, s10, s11, s12, s13, s14, v120, s16, s26, s33, s43, s51, s64, s98, s108, s124, s139, s143, s156, s160, s171, s175, s176, s177, s181, s183] H : R))
noncomputable def r83_23 (k : KT R) : KT R := fun fr H => opn 33 fr (fun s0 s1 s4 s5 s6 s7 s8 s9 s10 s11 s12 s13 s14 s15 s16 s26 s33 s43 s51 s64 s98 s108 s124 s139 s143 s156 s160 s171 s175 s176 s177 s181 s183 => 
(qIx s7 s8 fun v116 =>
k [s0, s1, s4, s5, s6, s7, s8, s9, s10, s11, s12, s13, v116, s15, s16, s26, s33, s43, s51, s64, s98, s108, s124, s139, s143, s156, s160, s171, s175, s176, s177, s181, s183] H : R))
noncomputable def r83_19 (k : KT R) : KT R := fun fr H => opn 33 fr (fun s0 s1 s4 s5 s6 s7 s8 s9 s10 s11 s12 s13 s14 s15 s16 s26 s33 s43 s51 s64 s98 s108 s124 s139 s143 s156 s160 s171 s175 s176 s177 s181 s183 => 
(k [s0, s1, (.int .i64 (-1)), s5, s6, s7, s8, s9, s10, s11, s12, s13, s14, s15, s16, s26, s33, s43, s51, s64, s98, s108, s124, s139, s143, s156, s160, s171, s175, s176, s177, s181, s183] H : R))
noncomputable def r83_18 (C : CallF) (k : KT R) : KT R := fun fr H => opn 33 fr (fun s0 s1 s4 s5 s6 s7 s8 s9 s10 s11 s12 s13 s14 s15 s16 s26 s33 s43 s51 s64 s98 s108 s124 s139 s143 s156 s160 s171 s175 s176 s177 s181 s183 => 
(qG (.bool true) true (fun k => k s10 H) H fun v73 H =>
qG (.bool true) true (fun k => k s9 H) H fun v74 H =>
qG (.bool true) true (fun k => qRes (C 89 [v74] H) k) H fun v75 H =>
qG (.bool true) true (fun k => qGtr X 3 v73 v75 fun v => k v H) H fun v76 H =>
qPick (.bool true) v76 (.bool false) fun v77 =>
qG v77 true (fun k => k s9 H) H fun v79 H =>
qG v77 true (fun k => k s0 H) H fun v80 H =>
qG v77 true (fun k => qLenS v80 fun v => k v H) H fun v81 H =>
qG v77 true (fun k => qLss X 3 v79 v81 fun v => k v H) H fun v82 H =>
qPick v77 v82 (.bool false) fun v83 =>
qG v83 false (fun k => k (.bool false) H) H fun v85 H =>
qG v85 true (fun k => k s10 H) H fun v86 H =>
qG v85 true (fun k => k s9 H) H fun v87 H =>
qG v85 true (fun k => qO (binop X .shr 3 v87 (.int .u64 4)) fun v => k v H) H fun v88 H =>
qG v85 true (fun k => qAdd X 3 (.int .i64 4) v88 fun v => k v H) H fun v89 H =>
qG v85 true (fun k => qGeq X 3 v86 v89 fun v => k v H) H fun v90 H =>
qG v83 false (fun k => qPick v85 v90 (.bool false) fun v => k v H) H fun v91 H =>
qG v83 false (fun k => k v91 H) H fun v92 H =>
qG v92 true (fun k => k s9 H) H fun v93 H =>
qG v92 true (fun k => k s0 H) H fun v94 H =>
qG v92 true (fun k => qLenS v94 fun v => k v H) H fun v95 H =>
qG v92 true (fun k => qLss X 3 v93 v95 fun v => k v H) H fun v96 H =>
qG v83 false (fun k => qPick v92 v96 (.bool false) fun v => k v H) H fun v97 H =>
qPick v83 (.bool true) v97 fun v98 =>
k [s0, s1, s4, s5, s6, s7, s8, s9, s10, s11, s12, s13, s14, s15, s16, s26, s33, s43, s51, s64, v98, s108, s124, s139, s143, s156, s160, s171, s175, s176, s177, s181, s183] H : R))
noncomputable def r83_17 (k : KT R) : KT R := fun fr H => opn 33 fr (fun s0 s1 s4 s5 s6 s7 s8 s9 s10 s11 s12 s13 s14 s15 s16 s26 s33 s43 s51 s64 s98 s108 s124 s139 s143 s156 s160 s171 s175 s176 s177 s181 s183 => 
(qAdd X 3 s9 (.int .i64 1) fun v71 =>
k [s0, s1, s4, s5, s6, s7, s8, v71, s10, s11, s12, s13, s14, s15, s16, s26, s33, s43, s51, s64, s98, s108, s124, s139, s143, s156, s160, s171, s175, s176, s177, s181, s183] H : R))
noncomputable def r83_16 (k : KT R) : KT R := fun fr H => opn 33 fr (fun s0 s1 s4 s5 s6 s7 s8 s9 s10 s11 s12 s13 s14 s15 s16 s26 s33 s43 s51 s64 s98 s108 s124 s139 s143 s156 s160 s171 s175 s176 s177 s181 s183 => 
(qAdd X 3 s10 (.int .i64 1) fun v69 =>
k [s0, s1, s4, s5, s6, s7, s8, s9, v69, s11, s12, s13, s14, s15, s16, s26, s33, s43, s51, s64, s98, s108, s124, s139, s143, s156, s160, s171, s175, s176, s177, s181, s183] H : R))
noncomputable def r83_15 (k : KT R) : KT R := fun fr H => opn 33 fr (fun s0 s1 s4 s5 s6 s7 s8 s9 s10 s11 s12 s13 s14 s15 s16 s26 s33 s43 s51 s64 s98 s108 s124 s139 s143 s156 s160 s171 s175 s176 s177 s181 s183 => 
(qSub X 3 s9 s8 fun v67 =>
k [s0, s1, v67, s5, s6, s7, s8, s9, s10, s11, s12, s13, s14, s15, s16, s26, s33, s43, s51, s64, s98, s108, s124, s139, s143, s156, s160, s171, s175, s176, s177, s181, s183] H : R))
noncomputable def r83_13 (k : KT R) : KT R := fun fr H => opn 33 fr (fun s0 s1 s4 s5 s6 s7 s8 s9 s10 s11 s12 s13 s14 s15 s16 s26 s33 s43 s51 s64 s98 s108 s124 s139 s143 s156 s160 s171 s175 s176 s177 s181 s183 => 
(qAdd X 3 s12 (.int .i64 1) fun v53 =>
k [s0, s1, s4, s5, s6, s7, s8, s9, s10, s11, v53, s13, s14, s15, s16, s26, s33, s43, s51, s64, s98, s108, s124, s139, s143, s156, s160, s171, s175, s176, s177, s181, s183] H : R))
noncomputable def r83_14 (k : KT R) : KT R := fun fr H => opn 33 fr (fun s0 s1 s4 s5 s6 s7 s8 s9 s10 s11 s12 s13 s14 s15 s16 s26 s33 s43 s51 s64 s98 s108 s124 s139 s143 s156 s160 s171 s175 s176 s177 s181 s183 => 
(qSub X 3 s9 s12 fun v57 =>
qIx s0 v57 fun v58 =>
qSub X 3 s8 s12 fun v62 =>
qIx s7 v62 fun v63 =>
qNeq X 5 v58 v63 fun v64 =>
k [s0, s1, s4, s5, s6, s7, s8, s9, s10, s11, s12, s13, s14, s15, s16, s26, s33, s43, s51, v64, s98, s108, s124, s139, s143, s156, s160, s171, s175, s176, s177, s181, s183] H : R))
noncomputable def r83_12 (k : KT R) : KT R := fun fr H => opn 33 fr (fun s0 s1 s4 s5 s6 s7 s8 s9 s10 s11 s12 s13 s14 s15 s16 s26 s33 s43 s51 s64 s98 s108 s124 s139 s143 s156 s160 s171 s175 s176 s177 s181 s183 => 
(qLenS s7 fun v50 =>
qLss X 3 s12 v50 fun v51 =>
k [s0, s1, s4, s5, s6, s7, s8, s9, s10, s11, s12, s13, s14, s15, s16, s26, s33, s43, v51, s64, s98, s108, s124, s139, s143, s156, s160, s171, s175, s176, s177, s181, s183] H : R))
noncomputable def l83_30 (k26 : KT R) : KT R → KT R := fun k27 => (r83_12 (qCd (sel 18) (fun k30 => k30) (fun _ => k26) (qBl (fun k28 => (r83_14 (qCd (sel 19) (fun _ => (fun _ _ => fail)) (fun k29 => k29) k28))) (r83_13 k27))))
noncomputable def r83_11 (k : KT R) : KT R := fun fr H => opn 33 fr (fun s0 s1 s4 s5 s6 s7 s8 s9 s10 s11 s12 s13 s14 s15 s16 s26 s33 s43 s51 s64 s98 s108 s124 s139 s143 s156 s160 s171 s175 s176 s177 s181 s183 => 
(k [s0, s1, s4, s5, s6, s7, s8, s9, s10, s11, (.int .i64 1), s13, s14, s15, s16, s26, s33, s43, s51, s64, s98, s108, s124, s139, s143, s156, s160, s171, s175, s176, s177, s181, s183] H : R))
noncomputable def r83_10 (k : KT R) : KT R := fun fr H => opn 33 fr (fun s0 s1 s4 s5 s6 s7 s8 s9 s10 s11 s12 s13 s14 s15 s16 s26 s33 s43 s51 s64 s98 s108 s124 s139 s143 s156 s160 s171 s175 s176 s177 s181 s183 => 
(qAdd X 3 s11 (.int .i64 1) fun v46 =>
qAdd X 3 s9 v46 fun v47 =>
k [s0, s1, s4, s5, s6, s7, s8, v47, s10, s11, s12, s13, s14, s15, s16, s26, s33, s43, s51, s64, s98, s108, s124, s139, s143, s156, s160, s171, s175, s176, s177, s181, s183] H : R))
noncomputable def r83_9 (k : KT R) : KT R := fun fr H => opn 33 fr (fun s0 s1 s4 s5 s6 s7 s8 s9 s10 s11 s12 s13 s14 s15 s16 s26 s33 s43 s51 s64 s98 s108 s124 s139 s143 s156 s160 s171 s175 s176 s177 s181 s183 => 
(k [s0, s1, (.int .i64 (-1)), s5, s6, s7, s8, s9, s10, s11, s12, s13, s14, s15, s16, s26, s33, s43, s51, s64, s98, s108, s124, s139, s143, s156, s160, s171, s175, s176, s177, s181, s183] H : R))
noncomputable def r83_8 (k : KT R) : KT R := fun fr H => opn 33 fr (fun s0 s1 s4 s5 s6 s7 s8 s9 s10 s11 s12 s13 s14 s15 s16 s26 s33 s43 s51 s64 s98 s108 s124 s139 s143 s156 s160 s171 s175 s176 s177 s181 s183 => 
(qLss X 3 s11 (.int .i64 0) fun v43 =>
k [s0, s1, s4, s5, s6, s7, s8, s9, s10, s11, s12, s13, s14, s15, s16, s26, s33, v43, s51, s64, s98, s108, s124, s139, s143, s156, s160, s171, s175, s176, s177, s181, s183] H : R))
noncomputable def r83_7 (C : CallF) (k : KT R) : KT R := fun fr H => opn 33 fr (fun s0 s1 s4 s5 s6 s7 s8 s9 s10 s11 s12 s13 s14 s15 s16 s26 s33 s43 s51 s64 s98 s108 s124 s139 s143 s156 s160 s171 s175 s176 s177 s181 s183 => 
(qAdd X 3 s9 (.int .i64 1) fun v36 =>
qSlc Tryd.t9.desc 0 s0 (some v36) none none fun v37 =>
qIx s7 s8 fun v40 =>
qRes (C 53 [v37, v40] H) fun v41 H =>
k [s0, s1, s4, s5, s6, s7, s8, s9, s10, v41, s12, s13, s14, s15, s16, s26, s33, s43, s51, s64, s98, s108, s124, s139, s143, s156, s160, s171, s175, s176, s177, s181, s183] H : R))
noncomputable def r83_6 (k : KT R) : KT R := fun fr H => opn 33 fr (fun s0 s1 s4 s5 s6 s7 s8 s9 s10 s11 s12 s13 s14 s15 s16 s26 s33 s43 s51 s64 s98 s108 s124 s139 s143 s156 s160 s171 s175 s176 s177 s181 s183 => 
(qIx s0 s9 fun v29 =>
qIx s7 s8 fun v32 =>
qNeq X 5 v29 v32 fun v33 =>
k [s0, s1, s4, s5, s6, s7, s8, s9, s10, s11, s12, s13, s14, s15, s16, s26, v33, s43, s51, s64, s98, s108, s124, s139, s143, s156, s160, s171, s175, s176, s177, s181, s183] H : R))
noncomputable def r83_5 (k : KT R) : KT R := fun fr H => opn 33 fr (fun s0 s1 s4 s5 s6 s7 s8 s9 s10 s11 s12 s13 s14 s15 s16 s26 s33 s43 s51 s64 s98 s108 s124 s139 s143 s156 s160 s171 s175 s176 s177 s181 s183 => 
(qLenS s0 fun v25 =>
qLss X 3 s9 v25 fun v26 =>
k [s0, s1, s4, s5, s6, s7, s8, s9, s10, s11, s12, s13, s14, s15, s16, v26, s33, s43, s51, s64, s98, s108, s124, s139, s143, s156, s160, s171, s175, s176, s177, s181, s183] H : R))
noncomputable def l83_33 (C : CallF) (k22 : KT R) (kr : KT R) : KT R → KT R := fun k23 => (r83_5 (qCd (sel 15) (fun k33 => k33) (fun _ => k22) (qBl (fun k24 => (r83_6 (qCd (sel 16) (fun k31 => (r83_7 C (r83_8 (qCd (sel 17) (fun _ => (r83_9 kr)) (fun k32 => k32) (r83_10 k31))))) (fun k31 => k31) (r83_11 (qBl (fun k26 => (qLoop (l83_30 k26))) (r83_15 kr)))))) k23)))
noncomputable def r83_4 (k : KT R) : KT R := fun fr H => opn 33 fr (fun s0 s1 s4 s5 s6 s7 s8 s9 s10 s11 s12 s13 s14 s15 s16 s26 s33 s43 s51 s64 s98 s108 s124 s139 s143 s156 s160 s171 s175 s176 s177 s181 s183 => 
(k [s0, s1, s4, s5, s6, s7, s8, s9, (.int .i64 0), s11, s12, s13, s14, s15, s16, s26, s33, s43, s51, s64, s98, s108, s124, s139, s143, s156, s160, s171, s175, s176, s177, s181, s183] H : R))
noncomputable def r83_3 (k : KT R) : KT R := fun fr H => opn 33 fr (fun s0 s1 s4 s5 s6 s7 s8 s9 s10 s11 s12 s13 s14 s15 s16 s26 s33 s43 s51 s64 s98 s108 s124 s139 s143 s156 s160 s171 s175 s176 s177 s181 s183 => 
(k [s0, s1, s4, s5, s6, s7, s8, s8, s10, s11, s12, s13, s14, s15, s16, s26, s33, s43, s51, s64, s98, s108, s124, s139, s143, s156, s160, s171, s175, s176, s177, s181, s183] H : R))
noncomputable def r83_2 (k : KT R) : KT R := fun fr H => opn 33 fr (fun s0 s1 s4 s5 s6 s7 s8 s9 s10 s11 s12 s13 s14 s15 s16 s26 s33 s43 s51 s64 s98 s108 s124 s139 s143 s156 s160 s171 s175 s176 s177 s181 s183 => 
(qLenS s7 fun v20 =>
qSub X 3 v20 (.int .i64 1) fun v21 =>
k [s0, s1, s4, s5, s6, s7, v21, s9, s10, s11, s12, s13, s14, s15, s16, s26, s33, s43, s51, s64, s98, s108, s124, s139, s143, s156, s160, s171, s175, s176, s177, s181, s183] H : R))
noncomputable def r83_1 (k : KT R) : KT R := fun fr H => opn 33 fr (fun s0 s1 s4 s5 s6 s7 s8 s9 s10 s11 s12 s13 s14 s15 s16 s26 s33 s43 s51 s64 s98 s108 s124 s139 s143 s156 s160 s171 s175 s176 s177 s181 s183 => 
(qO (conv X 21 9 s1) fun v18 =>
k [s0, s1, s4, s5, s6, v18, s8, s9, s10, s11, s12, s13, s14, s15, s16, s26, s33, s43, s51, s64, s98, s108, s124, s139, s143, s156, s160, s171, s175, s176, s177, s181, s183] H : R))
noncomputable def r83_43 (C : CallF) (k : KT R) : KT R := fun fr H => opn 33 fr (fun s0 s1 s4 s5 s6 s7 s8 s9 s10 s11 s12 s13 s14 s15 s16 s26 s33 s43 s51 s64 s98 s108 s124 s139 s143 s156 s160 s171 s175 s176 s177 s181 s183 => 
(qRes (C 88 [s1] H) fun v185 H =>
qNot v185 fun v186 =>
k [s0, s1, s4, s5, s6, s7, s8, s9, s10, s11, s12, s13, s14, s15, s16, s26, s33, s43, s51, s64, s98, s108, s124, s139, s143, s156, s160, s171, s175, s176, s177, s181, v186] H : R))
noncomputable def r83_36 (k : KT R) : KT R := fun fr H => opn 33 fr (fun s0 s1 s4 s5 s6 s7 s8 s9 s10 s11 s12 s13 s14 s15 s16 s26 s33 s43 s51 s64 s98 s108 s124 s139 s143 s156 s160 s171 s175 s176 s177 s181 s183 => 
(qEql X 21 s1 (.int .i32 65533) fun v173 =>
k [s0, s1, s4, s5, s6, s7, s8, s9, s10, s11, s12, s13, s14, s15, s16, s26, s33, s43, s51, s64, s98, s108, s124, s139, s143, s156, s160, v173, s175, s176, s177, s181, s183] H : R))
noncomputable def r83_34 (k : KT R) : KT R := fun fr H => opn 33 fr (fun s0 s1 s4 s5 s6 s7 s8 s9 s10 s11 s12 s13 s14 s15 s16 s26 s33 s43 s51 s64 s98 s108 s124 s139 s143 s156 s160 s171 s175 s176 s177 s181 s183 => 
(qLeq X 21 (.int .i32 0) s1 fun v162 =>
qG v162 true (fun k => k s1 H) H fun v164 H =>
qG v162 true (fun k => qLss X 21 v164 (.int .i32 128) fun v => k v H) H fun v165 H =>
qPick v162 v165 (.bool false) fun v166 =>
k [s0, s1, s4, s5, s6, s7, s8, s9, s10, s11, s12, s13, s14, s15, s16, s26, s33, s43, s51, s64, s98, s108, s124, s139, s143, s156, v166, s171, s175, s176, s177, s181, s183] H : R))
noncomputable def r83_0 (k : KT R) : KT R := fun fr H => opn 33 fr (fun s0 s1 s4 s5 s6 s7 s8 s9 s10 s11 s12 s13 s14 s15 s16 s26 s33 s43 s51 s64 s98 s108 s124 s139 s143 s156 s160 s171 s175 s176 s177 s181 s183 => 
(k [s0, s1, (.int .i64 0), s5, s6, s7, s8, s9, s10, s11, s12, s13, s14, s15, s16, s26, s33, s43, s51, s64, s98, s108, s124, s139, s143, s156, s160, s171, s175, s176, s177, s181, s183] H : R))
noncomputable def c83 (C : CallF) (l0 : List AV) (H : AH) (k : AV → AH → R) : R := opn 2 l0 (fun x0 x1 => (qFn (fun kr => (r83_0 (qBl (fun k1 => (r83_34 (qCd (sel 26) (fun _ => (r83_35 C kr)) (fun k2 => (r83_36 (qCd (sel 27) (fun _ => (r83_37 (qBl (fun k4 => (qLoop (l83_8 k4 kr))) (r83_42 kr)))) (fun k3 => (r83_43 C (qCd (sel 32) (fun _ => (r83_44 kr)) (fun _ => (r83_1 (r83_2 (r83_3 (r83_4 (qBl (fun k22 => (qLoop (l83_33 C k22 kr))) (r83_19 kr))))))) k3))) k2))) k1))) kr)))
(fun fr H => k (sel 2 fr) H) [x0, x1, Aes.undef, Aes.undef, Aes.undef, Aes.undef, Aes.undef, Aes.undef, Aes.undef, Aes.undef, Aes.undef, Aes.undef, Aes.undef, Aes.undef, Aes.undef, Aes.undef, Aes.undef, Aes.undef, Aes.undef, Aes.undef, Aes.undef, Aes.undef, Aes.undef, Aes.undef, Aes.undef, Aes.undef, Aes.undef, Aes.undef, Aes.undef, Aes.undef, Aes.undef, Aes.undef, Aes.undef] H : R))
/- unicode/utf8.appendRuneNonASCII -/
noncomputable def r86_4 (k : KT R) : KT R := fun fr H => opn 7 fr (fun s0 s1 s4 s5 s11 s25 s50 => 
(qO (binop X .shr 21 s1 (.int .u64 6)) fun v16 =>
qConvI .u8 v16 fun v17 =>
qO (binop X .or 5 (.int .u8 192) v17) fun v18 =>
qConvI .u8 s1 fun v20 =>
qO (binop X .and 5 v20 (.int .u8 63)) fun v21 =>
qO (binop X .or 5 (.int .u8 128) v21) fun v22 =>
qRows z5 2 [(0, v18), (1, v22)] fun v23 =>
qApp 1 1 s0 v23 true (some 5) H fun v24 H =>
k [s0, s1, v24, s5, s11, s25, s50] H : R))
noncomputable def r86_7 (k : KT R) : KT R := fun fr H => opn 7 fr (fun s0 s1 s4 s5 s11 s25 s50 => 
(qO (binop X .shr 21 s1 (.int .u64 12)) fun v36 =>
qConvI .u8 v36 fun v37 =>
qO (binop X .or 5 (.int .u8 224) v37) fun v38 =>
qO (binop X .shr 21 s1 (.int .u64 6)) fun v40 =>
qConvI .u8 v40 fun v41 =>
qO (binop X .and 5 v41 (.int .u8 63)) fun v42 =>
qO (binop X .or 5 (.int .u8 128) v42) fun v43 =>
qConvI .u8 s1 fun v45 =>
qO (binop X .and 5 v45 (.int .u8 63)) fun v46 =>
qO (binop X .or 5 (.int .u8 128) v46) fun v47 =>
qRows z5 3 [(0, v38), (1, v43), (2, v47)] fun v48 =>
qApp 1 1 s0 v48 true (some 5) H fun v49 H =>
k [s0, s1, v49, s5, s11, s25, s50] H : R))
noncomputable def r86_9 (k : KT R) : KT R := fun fr H => opn 7 fr (fun s0 s1 s4 s5 s11 s25 s50 => 
(qO (binop X .shr 21 s1 (.int .u64 18)) fun v59 =>
qConvI .u8 v59 fun v60 =>
qO (binop X .or 5 (.int .u8 240) v60) fun v61 =>
qO (binop X .shr 21 s1 (.int .u64 12)) fun v63 =>
qConvI .u8 v63 fun v64 =>
qO (binop X .and 5 v64 (.int .u8 63)) fun v65 =>
qO (binop X .or 5 (.int .u8 128) v65) fun v66 =>
qO (binop X .shr 21 s1 (.int .u64 6)) fun v68 =>
qConvI .u8 v68 fun v69 =>
qO (binop X .and 5 v69 (.int .u8 63)) fun v70 =>
qO (binop X .or 5 (.int .u8 128) v70) fun v71 =>
qConvI .u8 s1 fun v73 =>
qO (binop X .and 5 v73 (.int .u8 63)) fun v74 =>
qO (binop X .or 5 (.int .u8 128) v74) fun v75 =>
qRows z5 4 [(0, v61), (1, v66), (2, v71), (3, v75)] fun v76 =>
qApp 1 1 s0 v76 true (some 5) H fun v77 H =>
k [s0, s1, v77, s5, s11, s25, s50] H : R))
noncomputable def r86_2 (k : KT R) : KT R := fun fr H => opn 7 fr (fun s0 s1 s4 s5 s11 s25 s50 => 
(qRows z5 3 [(0, (.int .u8 239)), (1, (.int .u8 191)), (2, (.int .u8 189))] fun v9 =>
qApp 1 1 s0 v9 true (some 5) H fun v10 H =>
k [s0, s1, v10, s5, s11, s25, s50] H : R))
noncomputable def r86_8 (k : KT R) : KT R := fun fr H => opn 7 fr (fun s0 s1 s4 s5 s11 s25 s50 => 
(qGtr X 115 s5 (.int .u32 65535) fun v52 =>
qG v52 true (fun k => k s5 H) H fun v54 H =>
qG v52 true (fun k => qLeq X 115 v54 (.int .u32 1114111) fun v => k v H) H fun v55 H =>
qPick v52 v55 (.bool false) fun v56 =>
k [s0, s1, s4, s5, s11, s25, v56] H : R))
noncomputable def r86_6 (k : KT R) : KT R := fun fr H => opn 7 fr (fun s0 s1 s4 s5 s11 s25 s50 => 
(qLss X 115 (.int .u32 57343) s5 fun v29 =>
qG v29 true (fun k => k s5 H) H fun v31 H =>
qG v29 true (fun k => qLeq X 115 v31 (.int .u32 65535) fun v => k v H) H fun v32 H =>
qPick v29 v32 (.bool false) fun v33 =>
k [s0, s1, s4, s5, s11, v33, s50] H : R))
noncomputable def r86_5 (k : KT R) : KT R := fun fr H => opn 7 fr (fun s0 s1 s4 s5 s11 s25 s50 => 
(qLss X 115 s5 (.int .u32 55296) fun v27 =>
k [s0, s1, s4, s5, s11, v27, s50] H : R))
noncomputable def r86_3 (k : KT R) : KT R := fun fr H => opn 7 fr (fun s0 s1 s4 s5 s11 s25 s50 => 
(qLeq X 115 s5 (.int .u32 2047) fun v13 =>
k [s0, s1, s4, s5, v13, s25, s50] H : R))
noncomputable def r86_1 (k : KT R) : KT R := fun fr H => opn 7 fr (fun s0 s1 s4 s5 s11 s25 s50 => 
(qConvI .u32 s1 fun v7 =>
k [s0, s1, s4, v7, s11, s25, s50] H : R))
noncomputable def r86_0 (k : KT R) : KT R := fun fr H => opn 7 fr (fun s0 s1 s4 s5 s11 s25 s50 => 
(k [s0, s1, (.sl [] .nil), s5, s11, s25, s50] H : R))
noncomputable def c86 (C : CallF) (l0 : List AV) (H : AH) (k : AV → AH → R) : R := opn 2 l0 (fun x0 x1 => (qFn (fun kr => (r86_0 (r86_1 (qBl (fun k1 => (r86_3 (qCd (sel 4) (fun _ => (r86_4 kr)) (fun k2 => (r86_5 (qCd (sel 5) (fun k5 => k5) (fun k5 => (r86_6 k5)) (qCd (sel 5) (fun _ => (r86_7 kr)) (fun k3 => (r86_8 (qCd (sel 6) (fun _ => (r86_9 kr)) (fun _ => (r86_2 kr)) k3))) k2)))) k1))) kr))))
(fun fr H => k (sel 2 fr) H) [x0, x1, Aes.undef, Aes.undef, Aes.undef, Aes.undef, Aes.undef] H : R))
/- unicode/utf8.ValidRune -/
noncomputable def r88_5 (k : KT R) : KT R := fun fr H => opn 4 fr (fun s0 s2 s3 s10 => 
(k [s0, (.bool false), s3, s10] H : R))
noncomputable def r88_2 (k : KT R) : KT R := fun fr H => opn 4 fr (fun s0 s2 s3 s10 => 
(k [s0, (.bool true), s3, s10] H : R))
noncomputable def r88_4 (k : KT R) : KT R := fun fr H => opn 4 fr (fun s0 s2 s3 s10 => 
(k [s0, (.bool true), s3, s10] H : R))
noncomputable def r88_3 (k : KT R) : KT R := fun fr H => opn 4 fr (fun s0 s2 s3 s10 => 
(qLss X 21 (.int .i32 57343) s0 fun v12 =>
qG v12 true (fun k => k s0 H) H fun v14 H =>
qG v12 true (fun k => qLeq X 21 v14 (.int .i32 1114111) fun v => k v H) H fun v15 H =>
qPick v12 v15 (.bool false) fun v16 =>
k [s0, s2, s3, v16] H : R))
noncomputable def r88_1 (k : KT R) : KT R := fun fr H => opn 4 fr (fun s0 s2 s3 s10 => 
(qLeq X 21 (.int .i32 0) s0 fun v5 =>
qG v5 true (fun k => k s0 H) H fun v7 H =>
qG v5 true (fun k => qLss X 21 v7 (.int .i32 55296) fun v => k v H) H fun v8 H =>
qPick v5 v8 (.bool false) fun v9 =>
k [s0, s2, v9, s10] H : R))
noncomputable def r88_0 (k : KT R) : KT R := fun fr H => opn 4 fr (fun s0 s2 s3 s10 => 
(k [s0, (.bool false), s3, s10] H : R))
noncomputable def c88 (C : CallF) (l0 : List AV) (H : AH) (k : AV → AH → R) : R := opn 1 l0 (fun x0 => (qFn (fun kr => (r88_0 (qBl (fun k1 => (r88_1 (qCd (sel 2) (fun _ => (r88_2 kr)) (fun k2 => (r88_3 (qCd (sel 3) (fun _ => (r88_4 kr)) (fun k3 => k3) k2))) k1))) (r88_5 kr))))
(fun fr H => k (sel 1 fr) H) [x0, Aes.undef, Aes.undef, Aes.undef] H : R))
/- (*strings.Builder).WriteString -/
noncomputable def r92_3 (k : KT R) : KT R := fun fr H => opn 4 fr (fun s0 s1 s4 s5 => 
(qLenS s1 fun v18 =>
k [s0, s1, v18, (.nilif)] H : R))
noncomputable def r92_2 (k : KT R) : KT R := fun fr H => opn 4 fr (fun s0 s1 s4 s5 => 
(qNc s0 fun v10 =>
qFa 1 v10 fun v11 =>
qLd v11 H fun v12 =>
qApp 1 1 v12 s1 true (some 5) H fun v14 H =>
qNc s0 fun v15 =>
qFa 1 v15 fun v16 =>
qSt 1 v16 v14 H fun _ H =>
k [s0, s1, s4, s5] H : R))
noncomputable def r92_1 (C : CallF) (k : KT R) : KT R := fun fr H => opn 4 fr (fun s0 s1 s4 s5 => 
(qRes (C 77 [s0] H) fun v7 H =>
k [s0, s1, s4, s5] H : R))
noncomputable def r92_0 (k : KT R) : KT R := fun fr H => opn 4 fr (fun s0 s1 s4 s5 => 
(k [s0, s1, (.int .i64 0), (.nilif)] H : R))
noncomputable def c92 (C : CallF) (l0 : List AV) (H : AH) (k : AV → AH → R) : R := opn 2 l0 (fun x0 x1 => (qFn (fun kr => (r92_0 (r92_1 C (r92_2 (r92_3 kr)))))
(fun fr H => k (.tup [(sel 2 fr), (sel 3 fr)]) H) [x0, x1, Aes.undef, Aes.undef] H : R))
end
theorem e5 {R : Type} [Mon R] : hFn (R := R) X 5 Tryd.f5 2 [0, 1, 4, 5, 6, 7, 8, 10, 11, 13, 14, 15, 16, 17, 19, 25, 32, 58, 67] = c5 := by kernel_rfl
theorem xf5 : X.fn 5 = some Tryd.f5 := by kernel_rfl
theorem e7 {R : Type} [Mon R] : hFn (R := R) X 7 Tryd.f7 0 [0, 1, 2, 4] = c7 := by kernel_rfl
theorem xf7 : X.fn 7 = some Tryd.f7 := by kernel_rfl
theorem e8 {R : Type} [Mon R] : hFn (R := R) X 8 Tryd.f8 1 [0, 2, 3, 4, 5, 6, 9, 19, 24, 30] = c8 := by kernel_rfl
theorem xf8 : X.fn 8 = some Tryd.f8 := by kernel_rfl
theorem e13 {R : Type} [Mon R] : hFn (R := R) X 13 Tryd.f13 2 [0, 1, 4, 5, 10] = c13 := by kernel_rfl
theorem xf13 : X.fn 13 = some Tryd.f13 := by kernel_rfl
theorem e14 {R : Type} [Mon R] : hFn (R := R) X 14 Tryd.f14 1 [0, 2] = c14 := by kernel_rfl
theorem xf14 : X.fn 14 = some Tryd.f14 := by kernel_rfl
theorem e20 {R : Type} [Mon R] : hFn (R := R) X 20 Tryd.f20 1 [0, 2, 3, 4, 18, 28] = c20 := by kernel_rfl
theorem xf20 : X.fn 20 = some Tryd.f20 := by kernel_rfl
theorem e22 {R : Type} [Mon R] : hFn (R := R) X 22 Tryd.f22 2 [0, 1, 2, 3, 4, 5, 6, 7, 19, 27, 36] = c22 := by kernel_rfl
theorem xf22 : X.fn 22 = some Tryd.f22 := by kernel_rfl
theorem e23 {R : Type} [Mon R] : hFn (R := R) X 23 Tryd.f23 1 [0] = c23 := by kernel_rfl
theorem xf23 : X.fn 23 = some Tryd.f23 := by kernel_rfl
theorem e24 {R : Type} [Mon R] : hFn (R := R) X 24 Tryd.f24 1 [] = c24 := by kernel_rfl
theorem xf24 : X.fn 24 = some Tryd.f24 := by kernel_rfl
theorem e32 {R : Type} [Mon R] : hFn (R := R) X 32 Tryd.f32 2 [0, 1, 4, 5, 6] = c32 := by kernel_rfl
theorem xf32 : X.fn 32 = some Tryd.f32 := by kernel_rfl
theorem e33 {R : Type} [Mon R] : hFn (R := R) X 33 Tryd.f33 3 [0, 1, 2, 8, 12] = c33 := by kernel_rfl
theorem xf33 : X.fn 33 = some Tryd.f33 := by kernel_rfl
theorem e34 {R : Type} [Mon R] : hFn (R := R) X 34 Tryd.f34 3 [0, 1, 2] = c34 := by kernel_rfl
theorem xf34 : X.fn 34 = some Tryd.f34 := by kernel_rfl
theorem e35 {R : Type} [Mon R] : hFn (R := R) X 35 Tryd.f35 4 [0, 1, 2, 3, 4] = c35 := by kernel_rfl
theorem xf35 : X.fn 35 = some Tryd.f35 := by kernel_rfl
theorem e36 {R : Type} [Mon R] : hFn (R := R) X 36 Tryd.f36 1 [0, 2, 10] = c36 := by kernel_rfl
theorem xf36 : X.fn 36 = some Tryd.f36 := by kernel_rfl
theorem e37 {R : Type} [Mon R] : hFn (R := R) X 37 Tryd.f37 2 [0, 1, 7] = c37 := by kernel_rfl
theorem xf37 : X.fn 37 = some Tryd.f37 := by kernel_rfl
theorem e38 {R : Type} [Mon R] : hFn (R := R) X 38 Tryd.f38 2 [0, 1, 4] = c38 := by kernel_rfl
theorem xf38 : X.fn 38 = some Tryd.f38 := by kernel_rfl
theorem e39 {R : Type} [Mon R] : hFn (R := R) X 39 Tryd.f39 1 [0, 2, 3, 4, 5, 23, 30, 41, 56] = c39 := by kernel_rfl
theorem xf39 : X.fn 39 = some Tryd.f39 := by kernel_rfl
theorem e40 {R : Type} [Mon R] : hFn (R := R) X 40 Tryd.f40 1 [0, 2, 3, 4, 5, 13, 17, 26, 31] = c40 := by kernel_rfl
theorem xf40 : X.fn 40 = some Tryd.f40 := by kernel_rfl
theorem e41 {R : Type} [Mon R] : hFn (R := R) X 41 Tryd.f41 2 [0, 1, 4, 5, 6, 12, 21, 31] = c41 := by kernel_rfl
theorem xf41 : X.fn 41 = some Tryd.f41 := by kernel_rfl
theorem e48 {R : Type} [Mon R] : hFn (R := R) X 48 Tryd.f48 2 [0, 1, 4, 5] = c48 := by kernel_rfl
theorem xf48 : X.fn 48 = some Tryd.f48 := by kernel_rfl
theorem e49 {R : Type} [Mon R] : hFn (R := R) X 49 Tryd.f49 2 [0, 1, 4] = c49 := by kernel_rfl
theorem xf49 : X.fn 49 = some Tryd.f49 := by kernel_rfl
theorem e50 {R : Type} [Mon R] : hFn (R := R) X 50 Tryd.f50 1 [0, 2, 3, 4, 5, 6, 7, 8, 9, 10, 31, 38, 39, 40, 49, 55, 59, 66, 71, 77, 92] = c50 := by kernel_rfl
theorem xf50 : X.fn 50 = some Tryd.f50 := by kernel_rfl
theorem e51 {R : Type} [Mon R] : hFn (R := R) X 51 Tryd.f51 2 [0, 1, 4, 5, 6, 23] = c51 := by kernel_rfl
theorem xf51 : X.fn 51 = some Tryd.f51 := by kernel_rfl
theorem e52 {R : Type} [Mon R] : hFn (R := R) X 52 Tryd.f52 1 [0, 2] = c52 := by kernel_rfl
theorem xf52 : X.fn 52 = some Tryd.f52 := by kernel_rfl
theorem e54 {R : Type} [Mon R] : hFn (R := R) X 54 Tryd.f54 1 [0, 2, 3, 4, 5, 6, 7, 8, 11, 26, 37, 41, 52, 62, 68] = c54 := by kernel_rfl
theorem xf54 : X.fn 54 = some Tryd.f54 := by kernel_rfl
theorem e56 {R : Type} [Mon R] : hFn (R := R) X 56 Tryd.f56 1 [0, 2, 3, 4, 5, 9, 16] = c56 := by kernel_rfl
theorem xf56 : X.fn 56 = some Tryd.f56 := by kernel_rfl
theorem e57 {R : Type} [Mon R] : hFn (R := R) X 57 Tryd.f57 2 [0, 1, 4, 7, 12] = c57 := by kernel_rfl
theorem xf57 : X.fn 57 = some Tryd.f57 := by kernel_rfl
theorem e62 {R : Type} [Mon R] : hFn (R := R) X 62 Tryd.f62 2 [0, 1, 4, 5, 9] = c62 := by kernel_rfl
theorem xf62 : X.fn 62 = some Tryd.f62 := by kernel_rfl
theorem e63 {R : Type} [Mon R] : hFn (R := R) X 63 Tryd.f63 1 [0, 2] = c63 := by kernel_rfl
theorem xf63 : X.fn 63 = some Tryd.f63 := by kernel_rfl
theorem e64 {R : Type} [Mon R] : hFn (R := R) X 64 Tryd.f64 2 [0, 1, 4, 5, 6] = c64 := by kernel_rfl
theorem xf64 : X.fn 64 = some Tryd.f64 := by kernel_rfl
theorem e65 {R : Type} [Mon R] : hFn (R := R) X 65 Tryd.f65 1 [0, 2, 3, 4, 5, 13, 22, 31] = c65 := by kernel_rfl
theorem xf65 : X.fn 65 = some Tryd.f65 := by kernel_rfl
theorem e66 {R : Type} [Mon R] : hFn (R := R) X 66 Tryd.f66 2 [0, 1, 4] = c66 := by kernel_rfl
theorem xf66 : X.fn 66 = some Tryd.f66 := by kernel_rfl
theorem e69 {R : Type} [Mon R] : hFn (R := R) X 69 Tryd.f69 2 [0, 1, 4] = c69 := by kernel_rfl
theorem xf69 : X.fn 69 = some Tryd.f69 := by kernel_rfl
theorem e70 {R : Type} [Mon R] : hFn (R := R) X 70 Tryd.f70 1 [0, 2] = c70 := by kernel_rfl
theorem xf70 : X.fn 70 = some Tryd.f70 := by kernel_rfl
theorem e71 {R : Type} [Mon R] : hFn (R := R) X 71 Tryd.f71 2 [0, 1, 4] = c71 := by kernel_rfl
theorem xf71 : X.fn 71 = some Tryd.f71 := by kernel_rfl
theorem e78 {R : Type} [Mon R] : hFn (R := R) X 78 Tryd.f78 2 [0, 1, 4, 7] = c78 := by kernel_rfl
theorem xf78 : X.fn 78 = some Tryd.f78 := by kernel_rfl
theorem e79 {R : Type} [Mon R] : hFn (R := R) X 79 Tryd.f79 1 [0, 2, 3, 5, 6, 9, 13, 14, 15, 20] = c79 := by kernel_rfl
theorem xf79 : X.fn 79 = some Tryd.f79 := by kernel_rfl
theorem e81 {R : Type} [Mon R] : hFn (R := R) X 81 Tryd.f81 2 [0, 1, 4, 7] = c81 := by kernel_rfl
theorem xf81 : X.fn 81 = some Tryd.f81 := by kernel_rfl
theorem e83 {R : Type} [Mon R] : hFn (R := R) X 83 Tryd.f83 2 [0, 1, 4, 5, 6, 7, 8, 9, 10, 11, 12, 13, 14, 15, 16, 26, 33, 43, 51, 64, 98, 108, 124, 139, 143, 156, 160, 171, 175, 176, 177, 181, 183] = c83 := by kernel_rfl
theorem xf83 : X.fn 83 = some Tryd.f83 := by kernel_rfl
theorem e86 {R : Type} [Mon R] : hFn (R := R) X 86 Tryd.f86 2 [0, 1, 4, 5, 11, 25, 50] = c86 := by kernel_rfl
theorem xf86 : X.fn 86 = some Tryd.f86 := by kernel_rfl
theorem e88 {R : Type} [Mon R] : hFn (R := R) X 88 Tryd.f88 1 [0, 2, 3, 10] = c88 := by kernel_rfl
theorem xf88 : X.fn 88 = some Tryd.f88 := by kernel_rfl
theorem e92 {R : Type} [Mon R] : hFn (R := R) X 92 Tryd.f92 2 [0, 1, 4, 5] = c92 := by kernel_rfl
theorem xf92 : X.fn 92 = some Tryd.f92 := by kernel_rfl
end T
