import Derived.Test.YtgmifbbimcblcaaTabRa
import Derived.Test.YtgmifbbimcblcaaS8
set_option linter.all false
set_option maxRecDepth 100000
set_option linter.unusedVariables false
open Go Go.Aes Go.Proofs
namespace T
noncomputable def z3 : List AV := [.int .i64 0]
noncomputable def z9 : List AV := [.str []]
noncomputable def z31 : List AV := [.int .i64 0, .int .i64 0, .int .i64 0]
noncomputable def z42 : List AV := [.int .i64 0, .sl [] .nil, .sl [] .nil, .sl [] .nil, .int .i64 0, .bool false]
noncomputable def z54 : List AV := [.str [], .str []]
noncomputable def z58 : List AV := [.int .i64 0, .str [], .sl [] .nil, .sl [] .nil]
noncomputable def z61 : List AV := [.int .i64 0, .str [], .str [], .str [], .int .i64 0, .str [], .sl [] .nil, .sl [] .nil, .str [], .sl [] .nil]
noncomputable def z67 : List AV := [.str [], .sl [] .nil]
noncomputable def z72 : List AV := [.str [], .int .i64 0]
noncomputable def z88 : List AV := [.int .i64 0, .int .i64 0, .int .i64 0, .nilfn]
noncomputable def z89 : List AV := [.int .i64 0, .int .i64 0, .int .i64 0, .int .i64 0, .int .i64 0, .int .i64 0]
noncomputable def z90 : List AV := [.int .i64 0, .int .i64 0, .int .i64 0, .int .i64 0, .int .i64 0, .int .i64 0, .int .i64 0, .int .i64 0]
noncomputable def z92 : List AV := [.int .i64 0, .int .i64 0, .int .i64 0, .int .i64 0, .int .i64 0, .int .i64 0, .int .i64 0, .int .i64 0, .int .i64 0, .int .i64 0, .int .i64 0, .int .i64 0, .int .i64 0, .int .i64 0, .int .i64 0, .int .i64 0, .int .i64 0, .int .i64 0, .int .i64 0, .int .i64 0, .int .i64 0, .int .i64 0, .int .i64 0, .int .i64 0, .int .i64 0, .int .i64 0, .int .i64 0, .bool false]
noncomputable def z96 : List AV := [.sl [] .nil]
noncomputable def z101 : List AV := [.int .i64 0, .str [], .str [], .str [], .int .i64 0, .str [], .sl [] .nil, .sl [] .nil, .str [], .sl [] .nil]
noncomputable def z104 : List AV := [.sl [] .nil]
noncomputable def z108 : List AV := [.str [], .str [], .str [], .str [], .str [], .str [], .str [], .str []]
noncomputable def z109 : List AV := [.str [], .str [], .str []]
section
variable {R : Type} [Mon R]
/- gosem.cut.init -/
noncomputable def r2_0 (C : CallF) (k : KT R) : KT R := fun fr H => opn 0 fr (
(qRes (C 1 [] H) fun v0 H =>
k [] H : R))
noncomputable def c2 (C : CallF) (l0 : List AV) (H : AH) (k : AV → AH → R) : R := opn 0 l0 ((qFn (fun kr => (r2_0 C kr))
(fun fr H => k (.tup []) H) [] H : R))
/- refectory/refectorylaw22.BucketPlays -/
noncomputable def r3_14 (C : CallF) (k : KT R) : KT R := fun fr H => opn 12 fr (fun s0 s1 s2 s6 s7 s8 s9 s17 s25 s30 s55 s62 => 
(qRes (C 22 [] H) fun v63 H =>
k [s0, s1, s2, v63, s7, s8, s9, s17, s25, s30, s55, s62] H : R))
noncomputable def r3_6 (k : KT R) : KT R := fun fr H => opn 12 fr (fun s0 s1 s2 s6 s7 s8 s9 s17 s25 s30 s55 s62 => 
(qAdd X 3 s9 (.int .i64 1) fun v27 =>
k [s0, s1, s2, s6, s7, s8, v27, s17, s25, s30, s55, s62] H : R))
noncomputable def r3_13 (k : KT R) : KT R := fun fr H => opn 12 fr (fun s0 s1 s2 s6 s7 s8 s9 s17 s25 s30 s55 s62 => 
(k [s0, s1, s2, (.bool false), s7, s8, s9, s17, s25, s30, s55, s62] H : R))
noncomputable def r3_12 (C : CallF) (k : KT R) : KT R := fun fr H => opn 12 fr (fun s0 s1 s2 s6 s7 s8 s9 s17 s25 s30 s55 s62 => 
(qNc s8 fun v59 =>
qFa 2 v59 fun v60 =>
qLd v60 H fun v61 =>
qRes (C 21 [s7] H) fun v57 H =>
qLd v60 H fun w => qSame v61 w (qNeq X 3 v57 v61 fun v62 =>
k [s0, s1, s2, s6, s7, s8, s9, s17, s25, s30, s55, v62] H) : R))
noncomputable def r3_9 (C : CallF) (k : KT R) : KT R := fun fr H => opn 12 fr (fun s0 s1 s2 s6 s7 s8 s9 s17 s25 s30 s55 s62 => 
(qIa 1 s2 s9 fun v40 =>
qLd v40 H fun v41 =>
qRes (C 18 [s8, v41] H) fun v42 H =>
k [s0, s1, s2, s6, s7, s8, s9, s17, s25, s30, s55, s62] H : R))
noncomputable def r3_8 (C : CallF) (k : KT R) : KT R := fun fr H => opn 12 fr (fun s0 s1 s2 s6 s7 s8 s9 s17 s25 s30 s55 s62 => 
(qIa 1 s2 s9 fun v34 =>
qLd v34 H fun v35 =>
qRes (C 17 [s7, v35] H) fun v36 H =>
k [s0, s1, s2, s6, s7, s8, s9, s17, s25, s30, s55, s62] H : R))
noncomputable def r3_11 (k : KT R) : KT R := fun fr H => opn 12 fr (fun s0 s1 s2 s6 s7 s8 s9 s17 s25 s30 s55 s62 => 
(k [s0, s1, s2, (.bool false), s7, s8, s9, s17, s25, s30, s55, s62] H : R))
noncomputable def r3_10 (C : CallF) (k : KT R) : KT R := fun fr H => opn 12 fr (fun s0 s1 s2 s6 s7 s8 s9 s17 s25 s30 s55 s62 => 
(qIa 1 s2 s9 fun v46 =>
qLd v46 H fun v47 =>
qIa 1 s2 s9 fun v52 =>
qLd v52 H fun v53 =>
qRes (C 19 [s7, v47] H) fun v48 H =>
qLd v52 H fun w => qSame v53 w (qRes (C 20 [s8, v53] H) fun v54 H =>
qNeq X 4 v48 v54 fun v55 =>
k [s0, s1, s2, s6, s7, s8, s9, s17, s25, s30, v55, s62] H) : R))
noncomputable def r3_7 (k : KT R) : KT R := fun fr H => opn 12 fr (fun s0 s1 s2 s6 s7 s8 s9 s17 s25 s30 s55 s62 => 
(qRem X 3 s9 (.int .i64 2) fun v29 =>
qEql X 3 v29 (.int .i64 0) fun v30 =>
k [s0, s1, s2, s6, s7, s8, s9, s17, s25, v30, s55, s62] H : R))
noncomputable def r3_5 (k : KT R) : KT R := fun fr H => opn 12 fr (fun s0 s1 s2 s6 s7 s8 s9 s17 s25 s30 s55 s62 => 
(qLenL s2 fun v20 =>
qLss X 3 s9 v20 fun v21 =>
qG v21 true (fun k => k s9 H) H fun v23 H =>
qG v21 true (fun k => qLss X 3 v23 (.int .i64 100) fun v => k v H) H fun v24 H =>
qPick v21 v24 (.bool false) fun v25 =>
k [s0, s1, s2, s6, s7, s8, s9, s17, v25, s30, s55, s62] H : R))
noncomputable def l3_7 (C : CallF) (k1 : KT R) (kr : KT R) : KT R → KT R := fun k2 => (r3_5 (qCd (sel 8) (fun k7 => k7) (fun _ => k1) (qBl (fun k3 => (r3_7 (qCd (sel 9) (fun k5 => (r3_8 C (r3_9 C k5))) (fun k5 => (r3_10 C (qCd (sel 10) (fun _ => (r3_11 kr)) (fun k6 => k6) k5))) (r3_12 C (qCd (sel 11) (fun _ => (r3_13 kr)) (fun k4 => k4) k3))))) (r3_6 k2))))
noncomputable def r3_4 (k : KT R) : KT R := fun fr H => opn 12 fr (fun s0 s1 s2 s6 s7 s8 s9 s17 s25 s30 s55 s62 => 
(k [s0, s1, s2, s6, s7, s8, (.int .i64 0), s17, s25, s30, s55, s62] H : R))
noncomputable def r3_3 (k : KT R) : KT R := fun fr H => opn 12 fr (fun s0 s1 s2 s6 s7 s8 s9 s17 s25 s30 s55 s62 => 
(k [s0, s1, s2, (.bool false), s7, s8, s9, s17, s25, s30, s55, s62] H : R))
noncomputable def r3_2 (k : KT R) : KT R := fun fr H => opn 12 fr (fun s0 s1 s2 s6 s7 s8 s9 s17 s25 s30 s55 s62 => 
(qEql X 23 s7 (.nilp) fun v17 =>
k [s0, s1, s2, s6, s7, s8, s9, v17, s25, s30, s55, s62] H : R))
noncomputable def r3_1 (C : CallF) (k : KT R) : KT R := fun fr H => opn 12 fr (fun s0 s1 s2 s6 s7 s8 s9 s17 s25 s30 s55 s62 => 
(qRes (C 15 [s0, s1] H) fun v12 H =>
qRes (C 16 [s0, s1] H) fun v15 H =>
k [s0, s1, s2, s6, v12, v15, s9, s17, s25, s30, s55, s62] H : R))
noncomputable def r3_0 (k : KT R) : KT R := fun fr H => opn 12 fr (fun s0 s1 s2 s6 s7 s8 s9 s17 s25 s30 s55 s62 => 
(k [s0, s1, s2, (.bool false), s7, s8, s9, s17, s25, s30, s55, s62] H : R))
noncomputable def c3 (C : CallF) (l0 : List AV) (H : AH) (k : AV → AH → R) : R := opn 3 l0 (fun x0 x1 x2 => (qFn (fun kr => (r3_0 (r3_1 C (r3_2 (qCd (sel 7) (fun _ => (r3_3 kr)) (fun k8 => k8) (r3_4 (qBl (fun k1 => (qLoop (l3_7 C k1 kr))) (r3_14 C kr))))))))
(fun fr H => k (sel 3 fr) H) [x0, x1, x2, Aes.undef, Aes.undef, Aes.undef, Aes.undef, Aes.undef, Aes.undef, Aes.undef, Aes.undef, Aes.undef] H : R))
/- refectory/refectorylaw22.BucketWindow -/
noncomputable def r4_24 (C : CallF) (k : KT R) : KT R := fun fr H => opn 24 fr (fun s0 s1 s2 s3 s4 s10 s11 s12 s13 s14 s15 s16 s17 s18 s19 s20 s21 s35 s49 s92 s98 s108 s112 s123 => 
(qRes (C 22 [] H) fun v127 H =>
k [s0, s1, s2, s3, s4, v127, s11, s12, s13, s14, s15, s16, s17, s18, s19, s20, s21, s35, s49, s92, s98, s108, s112, s123] H : R))
noncomputable def r4_9 (k : KT R) : KT R := fun fr H => opn 24 fr (fun s0 s1 s2 s3 s4 s10 s11 s12 s13 s14 s15 s16 s17 s18 s19 s20 s21 s35 s49 s92 s98 s108 s112 s123 => 
(qAdd X 3 s17 (.int .i64 1) fun v51 =>
k [s0, s1, s2, s3, s4, s10, s11, s12, s13, s14, s15, s16, v51, s18, s19, s20, s21, s35, s49, s92, s98, s108, s112, s123] H : R))
noncomputable def r4_23 (k : KT R) : KT R := fun fr H => opn 24 fr (fun s0 s1 s2 s3 s4 s10 s11 s12 s13 s14 s15 s16 s17 s18 s19 s20 s21 s35 s49 s92 s98 s108 s112 s123 => 
(qAdd X 3 s16 s21 fun v126 =>
k [s0, s1, s2, s3, s4, s10, s11, s12, s13, s14, s15, v126, s17, s18, s19, s20, s21, s35, s49, s92, s98, s108, s112, s123] H : R))
noncomputable def r4_22 (k : KT R) : KT R := fun fr H => opn 24 fr (fun s0 s1 s2 s3 s4 s10 s11 s12 s13 s14 s15 s16 s17 s18 s19 s20 s21 s35 s49 s92 s98 s108 s112 s123 => 
(qGeq X 3 s17 s14 fun v123 =>
k [s0, s1, s2, s3, s4, s10, s11, s12, s13, s14, s15, s16, s17, s18, s19, s20, s21, s35, s49, s92, s98, s108, s112, v123] H : R))
noncomputable def r4_21 (C : CallF) (k : KT R) : KT R := fun fr H => opn 24 fr (fun s0 s1 s2 s3 s4 s10 s11 s12 s13 s14 s15 s16 s17 s18 s19 s20 s21 s35 s49 s92 s98 s108 s112 s123 => 
(qRes (C 17 [s13, s21] H) fun v120 H =>
k [s0, s1, s2, s3, s4, s10, s11, s12, s13, s14, s15, s16, s17, s18, s19, s20, s21, s35, s49, s92, s98, s108, s112, s123] H : R))
noncomputable def r4_20 (C : CallF) (k : KT R) : KT R := fun fr H => opn 24 fr (fun s0 s1 s2 s3 s4 s10 s11 s12 s13 s14 s15 s16 s17 s18 s19 s20 s21 s35 s49 s92 s98 s108 s112 s123 => 
(qIa 1 s3 s17 fun v115 =>
qLd v115 H fun v116 =>
qRes (C 23 [v116, (.int .i64 5)] H) fun v117 H =>
k [s0, s1, s2, s3, s4, s10, s11, s12, s13, s14, s15, s16, s17, s18, s19, s20, v117, s35, s49, s92, s98, s108, s112, s123] H : R))
noncomputable def r4_19 (k : KT R) : KT R := fun fr H => opn 24 fr (fun s0 s1 s2 s3 s4 s10 s11 s12 s13 s14 s15 s16 s17 s18 s19 s20 s21 s35 s49 s92 s98 s108 s112 s123 => 
(qLenL s3 fun v111 =>
qLss X 3 s17 v111 fun v112 =>
k [s0, s1, s2, s3, s4, s10, s11, s12, s13, s14, s15, s16, s17, s18, s19, s20, s21, s35, s49, s92, s98, s108, v112, s123] H : R))
noncomputable def r4_18 (k : KT R) : KT R := fun fr H => opn 24 fr (fun s0 s1 s2 s3 s4 s10 s11 s12 s13 s14 s15 s16 s17 s18 s19 s20 s21 s35 s49 s92 s98 s108 s112 s123 => 
(k [s0, s1, s2, s3, s4, (.bool false), s11, s12, s13, s14, s15, s16, s17, s18, s19, s20, s21, s35, s49, s92, s98, s108, s112, s123] H : R))
noncomputable def r4_17 (k : KT R) : KT R := fun fr H => opn 24 fr (fun s0 s1 s2 s3 s4 s10 s11 s12 s13 s14 s15 s16 s17 s18 s19 s20 s21 s35 s49 s92 s98 s108 s112 s123 => 
(qMul X 3 s11 s16 fun v106 =>
qAdd X 3 s12 v106 fun v107 =>
qGtr X 3 s15 v107 fun v108 =>
k [s0, s1, s2, s3, s4, s10, s11, s12, s13, s14, s15, s16, s17, s18, s19, s20, s21, s35, s49, s92, s98, v108, s112, s123] H : R))
noncomputable def r4_16 (k : KT R) : KT R := fun fr H => opn 24 fr (fun s0 s1 s2 s3 s4 s10 s11 s12 s13 s14 s15 s16 s17 s18 s19 s20 s21 s35 s49 s92 s98 s108 s112 s123 => 
(qAdd X 3 s15 s18 fun v101 =>
k [s0, s1, s2, s3, s4, s10, s11, s12, s13, s14, v101, s16, s17, s18, s19, s20, s21, s35, s49, s92, s98, s108, s112, s123] H : R))
noncomputable def r4_15 (k : KT R) : KT R := fun fr H => opn 24 fr (fun s0 s1 s2 s3 s4 s10 s11 s12 s13 s14 s15 s16 s17 s18 s19 s20 s21 s35 s49 s92 s98 s108 s112 s123 => 
(qGeq X 3 s17 s14 fun v95 =>
qG v95 true (fun k => k s20 H) H fun v97 H =>
qPick v95 v97 (.bool false) fun v98 =>
k [s0, s1, s2, s3, s4, s10, s11, s12, s13, s14, s15, s16, s17, s18, s19, s20, s21, s35, s49, s92, v98, s108, s112, s123] H : R))
noncomputable def r4_14 (k : KT R) : KT R := fun fr H => opn 24 fr (fun s0 s1 s2 s3 s4 s10 s11 s12 s13 s14 s15 s16 s17 s18 s19 s20 s21 s35 s49 s92 s98 s108 s112 s123 => 
(k [s0, s1, s2, s3, s4, (.bool false), s11, s12, s13, s14, s15, s16, s17, s18, s19, s20, s21, s35, s49, s92, s98, s108, s112, s123] H : R))
noncomputable def r4_13 (C : CallF) (k : KT R) : KT R := fun fr H => opn 24 fr (fun s0 s1 s2 s3 s4 s10 s11 s12 s13 s14 s15 s16 s17 s18 s19 s20 s21 s35 s49 s92 s98 s108 s112 s123 => 
(qLeq X 3 s18 s19 fun v65 =>
qNeq X 4 s20 v65 fun v66 =>
qG v66 false (fun k => k s13 H) H fun v68 H =>
qG v66 false (fun k => qRes (C 21 [v68] H) k) H fun v69 H =>
qG v66 false (fun k => k s19 H) H fun v70 H =>
qG v66 false (fun k => k s18 H) H fun v71 H =>
qG v66 false (fun k => qSub X 3 v70 v71 fun v => k v H) H fun v72 H =>
qG v66 false (fun k => qNeq X 3 v69 v72 fun v => k v H) H fun v73 H =>
qG v66 false (fun k => k v73 H) H fun v74 H =>
qG v74 true (fun k => k s20 H) H fun v75 H =>
qG v66 false (fun k => qPick v74 v75 (.bool false) fun v => k v H) H fun v76 H =>
qPick v66 (.bool true) v76 fun v77 =>
qG v77 false (fun k => k s13 H) H fun v79 H =>
qG v77 false (fun k => qRes (C 21 [v79] H) k) H fun v80 H =>
qG v77 false (fun k => k s19 H) H fun v81 H =>
qG v77 false (fun k => qNeq X 3 v80 v81 fun v => k v H) H fun v82 H =>
qG v77 false (fun k => k v82 H) H fun v83 H =>
qG v83 true (fun k => k s20 H) H fun v84 H =>
qG v83 true (fun k => qNot v84 fun v => k v H) H fun v85 H =>
qG v77 false (fun k => qPick v83 v85 (.bool false) fun v => k v H) H fun v86 H =>
qPick v77 (.bool true) v86 fun v87 =>
qG v87 false (fun k => k s19 H) H fun v89 H =>
qG v87 false (fun k => k s12 H) H fun v90 H =>
qG v87 false (fun k => qGtr X 3 v89 v90 fun v => k v H) H fun v91 H =>
qPick v87 (.bool true) v91 fun v92 =>
k [s0, s1, s2, s3, s4, s10, s11, s12, s13, s14, s15, s16, s17, s18, s19, s20, s21, s35, s49, v92, s98, s108, s112, s123] H : R))
noncomputable def r4_12 (C : CallF) (k : KT R) : KT R := fun fr H => opn 24 fr (fun s0 s1 s2 s3 s4 s10 s11 s12 s13 s14 s15 s16 s17 s18 s19 s20 s21 s35 s49 s92 s98 s108 s112 s123 => 
(qRes (C 19 [s13, s18] H) fun v61 H =>
k [s0, s1, s2, s3, s4, s10, s11, s12, s13, s14, s15, s16, s17, s18, s19, v61, s21, s35, s49, s92, s98, s108, s112, s123] H : R))
noncomputable def r4_11 (C : CallF) (k : KT R) : KT R := fun fr H => opn 24 fr (fun s0 s1 s2 s3 s4 s10 s11 s12 s13 s14 s15 s16 s17 s18 s19 s20 s21 s35 s49 s92 s98 s108 s112 s123 => 
(qRes (C 21 [s13] H) fun v58 H =>
k [s0, s1, s2, s3, s4, s10, s11, s12, s13, s14, s15, s16, s17, s18, v58, s20, s21, s35, s49, s92, s98, s108, s112, s123] H : R))
noncomputable def r4_10 (C : CallF) (k : KT R) : KT R := fun fr H => opn 24 fr (fun s0 s1 s2 s3 s4 s10 s11 s12 s13 s14 s15 s16 s17 s18 s19 s20 s21 s35 s49 s92 s98 s108 s112 s123 => 
(qIa 1 s2 s17 fun v54 =>
qLd v54 H fun v55 =>
qRes (C 23 [v55, (.int .i64 120)] H) fun v56 H =>
k [s0, s1, s2, s3, s4, s10, s11, s12, s13, s14, s15, s16, s17, v56, s19, s20, s21, s35, s49, s92, s98, s108, s112, s123] H : R))
noncomputable def r4_8 (k : KT R) : KT R := fun fr H => opn 24 fr (fun s0 s1 s2 s3 s4 s10 s11 s12 s13 s14 s15 s16 s17 s18 s19 s20 s21 s35 s49 s92 s98 s108 s112 s123 => 
(qLenL s2 fun v48 =>
qLss X 3 s17 v48 fun v49 =>
k [s0, s1, s2, s3, s4, s10, s11, s12, s13, s14, s15, s16, s17, s18, s19, s20, s21, s35, v49, s92, s98, s108, s112, s123] H : R))
noncomputable def l4_9 (C : CallF) (k1 : KT R) (kr : KT R) : KT R → KT R := fun k2 => (r4_8 (qCd (sel 18) (fun k9 => k9) (fun _ => k1) (qBl (fun k3 => (r4_10 C (r4_11 C (r4_12 C (r4_13 C (qCd (sel 19) (fun _ => (r4_14 kr)) (fun k8 => k8) (r4_15 (qCd (sel 20) (fun k7 => (r4_16 k7)) (fun k7 => k7) (r4_17 (qCd (sel 21) (fun _ => (r4_18 kr)) (fun k6 => k6) (r4_19 (qCd (sel 22) (fun k4 => (r4_20 C (r4_21 C (r4_22 (qCd (sel 23) (fun k5 => (r4_23 k5)) (fun k5 => k5) k4))))) (fun k4 => k4) k3)))))))))))) (r4_9 k2))))
noncomputable def r4_7 (k : KT R) : KT R := fun fr H => opn 24 fr (fun s0 s1 s2 s3 s4 s10 s11 s12 s13 s14 s15 s16 s17 s18 s19 s20 s21 s35 s49 s92 s98 s108 s112 s123 => 
(k [s0, s1, s2, s3, s4, s10, s11, s12, s13, s14, s15, s16, (.int .i64 0), s18, s19, s20, s21, s35, s49, s92, s98, s108, s112, s123] H : R))
noncomputable def r4_6 (k : KT R) : KT R := fun fr H => opn 24 fr (fun s0 s1 s2 s3 s4 s10 s11 s12 s13 s14 s15 s16 s17 s18 s19 s20 s21 s35 s49 s92 s98 s108 s112 s123 => 
(k [s0, s1, s2, s3, s4, s10, s11, s12, s13, s14, (.int .i64 0), (.int .i64 0), s17, s18, s19, s20, s21, s35, s49, s92, s98, s108, s112, s123] H : R))
noncomputable def r4_5 (C : CallF) (k : KT R) : KT R := fun fr H => opn 24 fr (fun s0 s1 s2 s3 s4 s10 s11 s12 s13 s14 s15 s16 s17 s18 s19 s20 s21 s35 s49 s92 s98 s108 s112 s123 => 
(qLenL s2 fun v43 =>
qAdd X 3 v43 (.int .i64 1) fun v44 =>
qRes (C 23 [s4, v44] H) fun v45 H =>
k [s0, s1, s2, s3, s4, s10, s11, s12, s13, v45, s15, s16, s17, s18, s19, s20, s21, s35, s49, s92, s98, s108, s112, s123] H : R))
noncomputable def r4_4 (C : CallF) (k : KT R) : KT R := fun fr H => opn 24 fr (fun s0 s1 s2 s3 s4 s10 s11 s12 s13 s14 s15 s16 s17 s18 s19 s20 s21 s35 s49 s92 s98 s108 s112 s123 => 
(qNeq X 23 s13 (.nilp) fun v37 =>
qG v37 true (fun k => qRes (C 22 [] H) k) H fun v39 H =>
qPick v37 v39 (.bool false) fun v40 =>
k [s0, s1, s2, s3, s4, v40, s11, s12, s13, s14, s15, s16, s17, s18, s19, s20, s21, s35, s49, s92, s98, s108, s112, s123] H : R))
noncomputable def r4_3 (k : KT R) : KT R := fun fr H => opn 24 fr (fun s0 s1 s2 s3 s4 s10 s11 s12 s13 s14 s15 s16 s17 s18 s19 s20 s21 s35 s49 s92 s98 s108 s112 s123 => 
(qEql X 23 s13 (.nilp) fun v30 =>
qG v30 false (fun k => k s2 H) H fun v32 H =>
qG v30 false (fun k => qLenL v32 fun v => k v H) H fun v33 H =>
qG v30 false (fun k => qGtr X 3 v33 (.int .i64 80) fun v => k v H) H fun v34 H =>
qPick v30 (.bool true) v34 fun v35 =>
k [s0, s1, s2, s3, s4, s10, s11, s12, s13, s14, s15, s16, s17, s18, s19, s20, s21, v35, s49, s92, s98, s108, s112, s123] H : R))
noncomputable def r4_2 (C : CallF) (k : KT R) : KT R := fun fr H => opn 24 fr (fun s0 s1 s2 s3 s4 s10 s11 s12 s13 s14 s15 s16 s17 s18 s19 s20 s21 s35 s49 s92 s98 s108 s112 s123 => 
(qRes (C 15 [s11, s12] H) fun v28 H =>
k [s0, s1, s2, s3, s4, s10, s11, s12, v28, s14, s15, s16, s17, s18, s19, s20, s21, s35, s49, s92, s98, s108, s112, s123] H : R))
noncomputable def r4_1 (C : CallF) (k : KT R) : KT R := fun fr H => opn 24 fr (fun s0 s1 s2 s3 s4 s10 s11 s12 s13 s14 s15 s16 s17 s18 s19 s20 s21 s35 s49 s92 s98 s108 s112 s123 => 
(qRes (C 23 [s0, (.int .i64 50)] H) fun v23 H =>
qRes (C 23 [s1, (.int .i64 500)] H) fun v25 H =>
k [s0, s1, s2, s3, s4, s10, v23, v25, s13, s14, s15, s16, s17, s18, s19, s20, s21, s35, s49, s92, s98, s108, s112, s123] H : R))
noncomputable def r4_0 (k : KT R) : KT R := fun fr H => opn 24 fr (fun s0 s1 s2 s3 s4 s10 s11 s12 s13 s14 s15 s16 s17 s18 s19 s20 s21 s35 s49 s92 s98 s108 s112 s123 => 
(k [s0, s1, s2, s3, s4, (.bool false), s11, s12, s13, s14, s15, s16, s17, s18, s19, s20, s21, s35, s49, s92, s98, s108, s112, s123] H : R))
noncomputable def c4 (C : CallF) (l0 : List AV) (H : AH) (k : AV → AH → R) : R := opn 5 l0 (fun x0 x1 x2 x3 x4 => (qFn (fun kr => (r4_0 (r4_1 C (r4_2 C (r4_3 (qCd (sel 17) (fun _ => (r4_4 C kr)) (fun k10 => k10) (r4_5 C (r4_6 (r4_7 (qBl (fun k1 => (qLoop (l4_9 C k1 kr))) (r4_24 C kr)))))))))))
(fun fr H => k (sel 5 fr) H) [x0, x1, x2, x3, x4, Aes.undef, Aes.undef, Aes.undef, Aes.undef, Aes.undef, Aes.undef, Aes.undef, Aes.undef, Aes.undef, Aes.undef, Aes.undef, Aes.undef, Aes.undef, Aes.undef, Aes.undef, Aes.undef, Aes.undef, Aes.undef, Aes.undef] H : R))
/- refectory/refectorylaw22.BucketEdges -/
noncomputable def r5_14 (C : CallF) (k : KT R) : KT R := fun fr H => opn 10 fr (fun s0 s1 s2 s6 s7 s8 s9 s48 s75 s83 => 
(qRes (C 21 [s7] H) fun v93 H =>
qEql X 3 v93 (.int .i64 100000) fun v94 =>
qG v94 true (fun k => qRes (C 22 [] H) k) H fun v96 H =>
qPick v94 v96 (.bool false) fun v97 =>
k [s0, s1, s2, v97, s7, s8, s9, s48, s75, s83] H : R))
noncomputable def r5_13 (C : CallF) (k : KT R) : KT R := fun fr H => opn 10 fr (fun s0 s1 s2 s6 s7 s8 s9 s48 s75 s83 => 
(qAdd X 3 (.int .i64 1073741825) s9 fun v90 =>
qRes (C 17 [s7, v90] H) fun v91 H =>
k [s0, s1, s2, s6, s7, s8, s9, s48, s75, s83] H : R))
noncomputable def r5_12 (C : CallF) (k : KT R) : KT R := fun fr H => opn 10 fr (fun s0 s1 s2 s6 s7 s8 s9 s48 s75 s83 => 
(qSub X 3 (.int .i64 (-1)) s9 fun v86 =>
qRes (C 17 [s7, v86] H) fun v87 H =>
k [s0, s1, s2, s6, s7, s8, s9, s48, s75, s83] H : R))
noncomputable def r5_11 (k : KT R) : KT R := fun fr H => opn 10 fr (fun s0 s1 s2 s6 s7 s8 s9 s48 s75 s83 => 
(k [s0, s1, s2, (.bool false), s7, s8, s9, s48, s75, s83] H : R))
noncomputable def r5_10 (C : CallF) (k : KT R) : KT R := fun fr H => opn 10 fr (fun s0 s1 s2 s6 s7 s8 s9 s48 s75 s83 => 
(qRes (C 21 [s7] H) fun v80 H =>
qMul X 3 s9 (.int .i64 1000) fun v82 =>
qNeq X 3 v80 v82 fun v83 =>
k [s0, s1, s2, s6, s7, s8, s9, s48, s75, v83] H : R))
noncomputable def r5_9 (C : CallF) (k : KT R) : KT R := fun fr H => opn 10 fr (fun s0 s1 s2 s6 s7 s8 s9 s48 s75 s83 => 
(qRes (C 17 [s7, s9] H) fun v78 H =>
k [s0, s1, s2, s6, s7, s8, s9, s48, s75, s83] H : R))
noncomputable def r5_8 (k : KT R) : KT R := fun fr H => opn 10 fr (fun s0 s1 s2 s6 s7 s8 s9 s48 s75 s83 => 
(k [s0, s1, s2, (.bool false), s7, s8, s9, s48, s75, s83] H : R))
noncomputable def r5_7 (C : CallF) (k : KT R) : KT R := fun fr H => opn 10 fr (fun s0 s1 s2 s6 s7 s8 s9 s48 s75 s83 => 
(qRes (C 21 [s8] H) fun v54 H =>
qNeq X 3 v54 (.int .i64 0) fun v55 =>
qG v55 false (fun k => k s7 H) H fun v57 H =>
qG v55 false (fun k => qRes (C 19 [v57, (.int .i64 100000)] H) k) H fun v58 H =>
qG v55 false (fun k => qNot v58 fun v => k v H) H fun v59 H =>
qPick v55 (.bool true) v59 fun v60 =>
qG v60 false (fun k => k s7 H) H fun v62 H =>
qG v60 false (fun k => qRes (C 21 [v62] H) k) H fun v63 H =>
qG v60 false (fun k => qNeq X 3 v63 (.int .i64 0) fun v => k v H) H fun v64 H =>
qPick v60 (.bool true) v64 fun v65 =>
qG v65 false (fun k => k s7 H) H fun v67 H =>
qG v65 false (fun k => qRes (C 19 [v67, (.int .i64 (-5))] H) k) H fun v68 H =>
qG v65 false (fun k => qNot v68 fun v => k v H) H fun v69 H =>
qPick v65 (.bool true) v69 fun v70 =>
qG v70 false (fun k => k s7 H) H fun v72 H =>
qG v70 false (fun k => qRes (C 21 [v72] H) k) H fun v73 H =>
qG v70 false (fun k => qNeq X 3 v73 (.int .i64 0) fun v => k v H) H fun v74 H =>
qPick v70 (.bool true) v74 fun v75 =>
k [s0, s1, s2, s6, s7, s8, s9, s48, v75, s83] H : R))
noncomputable def r5_6 (C : CallF) (k : KT R) : KT R := fun fr H => opn 10 fr (fun s0 s1 s2 s6 s7 s8 s9 s48 s75 s83 => 
(qRes (C 23 [s2, (.int .i64 99)] H) fun v52 H =>
k [s0, s1, s2, s6, s7, s8, v52, s48, s75, s83] H : R))
noncomputable def r5_5 (C : CallF) (k : KT R) : KT R := fun fr H => opn 10 fr (fun s0 s1 s2 s6 s7 s8 s9 s48 s75 s83 => 
(qRes (C 17 [s8, (.int .i64 5)] H) fun v50 H =>
k [s0, s1, s2, s6, s7, s8, s9, s48, s75, s83] H : R))
noncomputable def r5_4 (k : KT R) : KT R := fun fr H => opn 10 fr (fun s0 s1 s2 s6 s7 s8 s9 s48 s75 s83 => 
(k [s0, s1, s2, (.bool false), s7, s8, s9, s48, s75, s83] H : R))
noncomputable def r5_3 (C : CallF) (k : KT R) : KT R := fun fr H => opn 10 fr (fun s0 s1 s2 s6 s7 s8 s9 s48 s75 s83 => 
(qEql X 23 s7 (.nilp) fun v25 =>
qG v25 false (fun k => k s8 H) H fun v27 H =>
qG v25 false (fun k => qEql X 23 v27 (.nilp) fun v => k v H) H fun v28 H =>
qPick v25 (.bool true) v28 fun v29 =>
qG v29 false (fun k => k s7 H) H fun v31 H =>
qG v29 false (fun k => qRes (C 21 [v31] H) k) H fun v32 H =>
qG v29 false (fun k => qNeq X 3 v32 (.int .i64 100000) fun v => k v H) H fun v33 H =>
qPick v29 (.bool true) v33 fun v34 =>
qG v34 false (fun k => k s8 H) H fun v36 H =>
qG v34 false (fun k => qRes (C 21 [v36] H) k) H fun v37 H =>
qG v34 false (fun k => qNeq X 3 v37 (.int .i64 0) fun v => k v H) H fun v38 H =>
qPick v34 (.bool true) v38 fun v39 =>
qG v39 false (fun k => k s8 H) H fun v41 H =>
qG v39 false (fun k => qRes (C 19 [v41, (.int .i64 0)] H) k) H fun v42 H =>
qG v39 false (fun k => qNot v42 fun v => k v H) H fun v43 H =>
qPick v39 (.bool true) v43 fun v44 =>
qG v44 false (fun k => k s8 H) H fun v46 H =>
qG v44 false (fun k => qRes (C 19 [v46, (.int .i64 1)] H) k) H fun v47 H =>
qPick v44 (.bool true) v47 fun v48 =>
k [s0, s1, s2, s6, s7, s8, s9, v48, s75, s83] H : R))
noncomputable def r5_2 (C : CallF) (k : KT R) : KT R := fun fr H => opn 10 fr (fun s0 s1 s2 s6 s7 s8 s9 s48 s75 s83 => 
(qRes (C 23 [s0, (.int .i64 1000)] H) fun v18 H =>
qSub X 3 (.int .i64 (-1)) v18 fun v19 =>
qRes (C 23 [s1, (.int .i64 1000)] H) fun v21 H =>
qSub X 3 (.int .i64 (-1)) v21 fun v22 =>
qRes (C 15 [v19, v22] H) fun v23 H =>
k [s0, s1, s2, s6, s7, v23, s9, s48, s75, s83] H : R))
noncomputable def r5_1 (C : CallF) (k : KT R) : KT R := fun fr H => opn 10 fr (fun s0 s1 s2 s6 s7 s8 s9 s48 s75 s83 => 
(qRes (C 23 [s0, (.int .i64 1000)] H) fun v11 H =>
qAdd X 3 (.int .i64 1001) v11 fun v12 =>
qRes (C 23 [s1, (.int .i64 1000)] H) fun v14 H =>
qAdd X 3 (.int .i64 100001) v14 fun v15 =>
qRes (C 15 [v12, v15] H) fun v16 H =>
k [s0, s1, s2, s6, v16, s8, s9, s48, s75, s83] H : R))
noncomputable def r5_0 (k : KT R) : KT R := fun fr H => opn 10 fr (fun s0 s1 s2 s6 s7 s8 s9 s48 s75 s83 => 
(k [s0, s1, s2, (.bool false), s7, s8, s9, s48, s75, s83] H : R))
noncomputable def c5 (C : CallF) (l0 : List AV) (H : AH) (k : AV → AH → R) : R := opn 3 l0 (fun x0 x1 x2 => (qFn (fun kr => (r5_0 (r5_1 C (r5_2 C (r5_3 C (qCd (sel 7) (fun _ => (r5_4 kr)) (fun k3 => k3) (r5_5 C (r5_6 C (r5_7 C (qCd (sel 8) (fun _ => (r5_8 kr)) (fun k2 => k2) (r5_9 C (r5_10 C (qCd (sel 9) (fun _ => (r5_11 kr)) (fun k1 => k1) (r5_12 C (r5_13 C (r5_14 C kr))))))))))))))))
(fun fr H => k (sel 3 fr) H) [x0, x1, x2, Aes.undef, Aes.undef, Aes.undef, Aes.undef, Aes.undef, Aes.undef, Aes.undef] H : R))
/- refectory/refectorylaw24.SharePlays -/
noncomputable def r6_16 (C : CallF) (k : KT R) : KT R := fun fr H => opn 17 fr (fun s0 s1 s2 s6 s7 s8 s9 s10 s11 s12 s13 s14 s22 s31 s43 s64 s103 => 
(qRes (C 24 [] H) fun v104 H =>
k [s0, s1, s2, v104, s7, s8, s9, s10, s11, s12, s13, s14, s22, s31, s43, s64, s103] H : R))
noncomputable def r6_9 (k : KT R) : KT R := fun fr H => opn 17 fr (fun s0 s1 s2 s6 s7 s8 s9 s10 s11 s12 s13 s14 s22 s31 s43 s64 s103 => 
(qAdd X 3 s10 s9 fun v46 =>
k [s0, s1, s2, s6, s7, s8, s9, v46, s11, s12, s13, s14, s22, s31, s43, s64, s103] H : R))
noncomputable def r6_15 (k : KT R) : KT R := fun fr H => opn 17 fr (fun s0 s1 s2 s6 s7 s8 s9 s10 s11 s12 s13 s14 s22 s31 s43 s64 s103 => 
(k [s0, s1, s2, (.bool false), s7, s8, s9, s10, s11, s12, s13, s14, s22, s31, s43, s64, s103] H : R))
noncomputable def r6_14 (C : CallF) (k : KT R) : KT R := fun fr H => opn 17 fr (fun s0 s1 s2 s6 s7 s8 s9 s10 s11 s12 s13 s14 s22 s31 s43 s64 s103 => 
(qNeq X 3 s11 s13 fun v78 =>
qG v78 false (fun k => k s12 H) H fun v80 H =>
qG v78 false (fun k => k s14 H) H fun v81 H =>
qG v78 false (fun k => qNeq X 4 v80 v81 fun v => k v H) H fun v82 H =>
qPick v78 (.bool true) v82 fun v83 =>
qG v83 false (fun k => k s7 H) H fun v85 H =>
qG v83 false (fun k => k s8 H) H fun v87 H =>
qG v83 false (fun k => qNc v87 fun v => k v H) H fun v88 H =>
qG v83 false (fun k => qFa 3 v88 fun v => k v H) H fun v89 H =>
qG v83 false (fun k => qLd v89 H fun v => k v H) H fun v90 H =>
qG v83 false (fun k => qRes (C 30 [v85] H) fun v H => qLd v89 H fun w => qSame v90 w (k v H)) H fun v86 H =>
qG v83 false (fun k => qRes (C 29 [v86, v90] H) k) H fun v91 H =>
qG v83 false (fun k => qNot v91 fun v => k v H) H fun v92 H =>
qPick v83 (.bool true) v92 fun v93 =>
qG v93 false (fun k => k s7 H) H fun v95 H =>
qG v93 false (fun k => k s8 H) H fun v97 H =>
qG v93 false (fun k => qNc v97 fun v => k v H) H fun v98 H =>
qG v93 false (fun k => qFa 2 v98 fun v => k v H) H fun v99 H =>
qG v93 false (fun k => qLd v99 H fun v => k v H) H fun v100 H =>
qG v93 false (fun k => qRes (C 31 [v95] H) fun v H => qLd v99 H fun w => qSame v100 w (k v H)) H fun v96 H =>
qG v93 false (fun k => qRes (C 29 [v96, v100] H) k) H fun v101 H =>
qG v93 false (fun k => qNot v101 fun v => k v H) H fun v102 H =>
qPick v93 (.bool true) v102 fun v103 =>
k [s0, s1, s2, s6, s7, s8, s9, s10, s11, s12, s13, s14, s22, s31, s43, s64, v103] H : R))
noncomputable def r6_13 (C : CallF) (k : KT R) : KT R := fun fr H => opn 17 fr (fun s0 s1 s2 s6 s7 s8 s9 s10 s11 s12 s13 s14 s22 s31 s43 s64 s103 => 
(qAdd X 3 s10 s9 fun v71 =>
qSlc Try.t22.desc 1 s2 (some s10) (some v71) none fun v72 =>
qRes (C 28 [s8, v72] H) fun v73 H =>
qExt v73 0 fun v74 =>
qExt v73 1 fun v75 =>
k [s0, s1, s2, s6, s7, s8, s9, s10, s11, s12, v74, v75, s22, s31, s43, s64, s103] H : R))
noncomputable def r6_12 (k : KT R) : KT R := fun fr H => opn 17 fr (fun s0 s1 s2 s6 s7 s8 s9 s10 s11 s12 s13 s14 s22 s31 s43 s64 s103 => 
(qNc s8 fun v60 =>
qFa 1 v60 fun v61 =>
qLd v61 H fun v62 =>
qLenL v62 fun v63 =>
qGtr X 3 v63 (.int .i64 0) fun v64 =>
k [s0, s1, s2, s6, s7, s8, s9, s10, s11, s12, s13, s14, s22, s31, s43, v64, s103] H : R))
noncomputable def r6_11 (k : KT R) : KT R := fun fr H => opn 17 fr (fun s0 s1 s2 s6 s7 s8 s9 s10 s11 s12 s13 s14 s22 s31 s43 s64 s103 => 
(k [s0, s1, s2, s6, s7, s8, s9, s10, s11, s12, (.int .i64 0), (.bool false), s22, s31, s43, s64, s103] H : R))
noncomputable def r6_10 (C : CallF) (k : KT R) : KT R := fun fr H => opn 17 fr (fun s0 s1 s2 s6 s7 s8 s9 s10 s11 s12 s13 s14 s22 s31 s43 s64 s103 => 
(qAdd X 3 s10 s9 fun v53 =>
qSlc Try.t22.desc 1 s2 (some s10) (some v53) none fun v54 =>
qApp 1 8 (.sl [] .nil) v54 false H fun v55 H =>
qRes (C 27 [s7, v55] H) fun v56 H =>
qExt v56 0 fun v57 =>
qExt v56 1 fun v58 =>
k [s0, s1, s2, s6, s7, s8, s9, s10, v57, v58, s13, s14, s22, s31, s43, s64, s103] H : R))
noncomputable def r6_8 (k : KT R) : KT R := fun fr H => opn 17 fr (fun s0 s1 s2 s6 s7 s8 s9 s10 s11 s12 s13 s14 s22 s31 s43 s64 s103 => 
(qAdd X 3 s10 s9 fun v40 =>
qLenL s2 fun v42 =>
qLeq X 3 v40 v42 fun v43 =>
k [s0, s1, s2, s6, s7, s8, s9, s10, s11, s12, s13, s14, s22, s31, v43, s64, s103] H : R))
noncomputable def l6_6 (C : CallF) (k1 : KT R) (kr : KT R) : KT R → KT R := fun k2 => (r6_8 (qCd (sel 14) (fun k6 => k6) (fun _ => k1) (qBl (fun k3 => (r6_10 C (r6_11 (r6_12 (qCd (sel 15) (fun k5 => (r6_13 C k5)) (fun k5 => k5) (r6_14 C (qCd (sel 16) (fun _ => (r6_15 kr)) (fun k4 => k4) k3))))))) (r6_9 k2))))
noncomputable def r6_7 (k : KT R) : KT R := fun fr H => opn 17 fr (fun s0 s1 s2 s6 s7 s8 s9 s10 s11 s12 s13 s14 s22 s31 s43 s64 s103 => 
(k [s0, s1, s2, s6, s7, s8, s9, (.int .i64 0), s11, s12, s13, s14, s22, s31, s43, s64, s103] H : R))
noncomputable def r6_6 (k : KT R) : KT R := fun fr H => opn 17 fr (fun s0 s1 s2 s6 s7 s8 s9 s10 s11 s12 s13 s14 s22 s31 s43 s64 s103 => 
(qNc s8 fun v33 =>
qFa 1 v33 fun v34 =>
qLd v34 H fun v35 =>
qLenL v35 fun v36 =>
qO (foldO max2 v36 [(.int .i64 1)]) fun v37 =>
k [s0, s1, s2, s6, s7, s8, v37, s10, s11, s12, s13, s14, s22, s31, s43, s64, s103] H : R))
noncomputable def r6_5 (k : KT R) : KT R := fun fr H => opn 17 fr (fun s0 s1 s2 s6 s7 s8 s9 s10 s11 s12 s13 s14 s22 s31 s43 s64 s103 => 
(k [s0, s1, s2, (.bool false), s7, s8, s9, s10, s11, s12, s13, s14, s22, s31, s43, s64, s103] H : R))
noncomputable def r6_4 (k : KT R) : KT R := fun fr H => opn 17 fr (fun s0 s1 s2 s6 s7 s8 s9 s10 s11 s12 s13 s14 s22 s31 s43 s64 s103 => 
(qEql X 37 s7 (.nilp) fun v31 =>
k [s0, s1, s2, s6, s7, s8, s9, s10, s11, s12, s13, s14, s22, v31, s43, s64, s103] H : R))
noncomputable def r6_3 (C : CallF) (k : KT R) : KT R := fun fr H => opn 17 fr (fun s0 s1 s2 s6 s7 s8 s9 s10 s11 s12 s13 s14 s22 s31 s43 s64 s103 => 
(qRes (C 25 [s0, s1] H) fun v26 H =>
qRes (C 26 [s0, s1] H) fun v29 H =>
k [s0, s1, s2, s6, v26, v29, s9, s10, s11, s12, s13, s14, s22, s31, s43, s64, s103] H : R))
noncomputable def r6_2 (C : CallF) (k : KT R) : KT R := fun fr H => opn 17 fr (fun s0 s1 s2 s6 s7 s8 s9 s10 s11 s12 s13 s14 s22 s31 s43 s64 s103 => 
(qRes (C 24 [] H) fun v23 H =>
k [s0, s1, s2, v23, s7, s8, s9, s10, s11, s12, s13, s14, s22, s31, s43, s64, s103] H : R))
noncomputable def r6_1 (k : KT R) : KT R := fun fr H => opn 17 fr (fun s0 s1 s2 s6 s7 s8 s9 s10 s11 s12 s13 s14 s22 s31 s43 s64 s103 => 
(qLenL s1 fun v16 =>
qGtr X 3 v16 (.int .i64 20) fun v17 =>
qG v17 false (fun k => k s2 H) H fun v19 H =>
qG v17 false (fun k => qLenL v19 fun v => k v H) H fun v20 H =>
qG v17 false (fun k => qGtr X 3 v20 (.int .i64 200) fun v => k v H) H fun v21 H =>
qPick v17 (.bool true) v21 fun v22 =>
k [s0, s1, s2, s6, s7, s8, s9, s10, s11, s12, s13, s14, v22, s31, s43, s64, s103] H : R))
noncomputable def r6_0 (k : KT R) : KT R := fun fr H => opn 17 fr (fun s0 s1 s2 s6 s7 s8 s9 s10 s11 s12 s13 s14 s22 s31 s43 s64 s103 => 
(k [s0, s1, s2, (.bool false), s7, s8, s9, s10, s11, s12, s13, s14, s22, s31, s43, s64, s103] H : R))
noncomputable def c6 (C : CallF) (l0 : List AV) (H : AH) (k : AV → AH → R) : R := opn 3 l0 (fun x0 x1 x2 => (qFn (fun kr => (r6_0 (r6_1 (qCd (sel 12) (fun _ => (r6_2 C kr)) (fun k8 => k8) (r6_3 C (r6_4 (qCd (sel 13) (fun _ => (r6_5 kr)) (fun k7 => k7) (r6_6 (r6_7 (qBl (fun k1 => (qLoop (l6_6 C k1 kr))) (r6_16 C kr)))))))))))
(fun fr H => k (sel 3 fr) H) [x0, x1, x2, Aes.undef, Aes.undef, Aes.undef, Aes.undef, Aes.undef, Aes.undef, Aes.undef, Aes.undef, Aes.undef, Aes.undef, Aes.undef, Aes.undef, Aes.undef, Aes.undef] H : R))
/- refectory/refectorylaw24.ShareFair -/
noncomputable def r7_36 (C : CallF) (k : KT R) : KT R := fun fr H => opn 32 fr (fun s0 s1 s2 s3 s4 s10 s11 s12 s13 s14 s15 s16 s17 s18 s19 s20 s21 s22 s23 s24 s25 s26 s37 s68 s84 s89 s98 s135 s154 s158 s164 s220 => 
(qRes (C 30 [s14] H) fun v222 H =>
qLenL v222 fun v223 =>
qLenL s12 fun v225 =>
qEql X 3 v223 v225 fun v226 =>
qG v226 true (fun k => qRes (C 24 [] H) k) H fun v228 H =>
qPick v226 v228 (.bool false) fun v229 =>
k [s0, s1, s2, s3, s4, v229, s11, s12, s13, s14, s15, s16, s17, s18, s19, s20, s21, s22, s23, s24, s25, s26, s37, s68, s84, s89, s98, s135, s154, s158, s164, s220] H : R))
noncomputable def r7_14 (k : KT R) : KT R := fun fr H => opn 32 fr (fun s0 s1 s2 s3 s4 s10 s11 s12 s13 s14 s15 s16 s17 s18 s19 s20 s21 s22 s23 s24 s25 s26 s37 s68 s84 s89 s98 s135 s154 s158 s164 s220 => 
(qAdd X 3 s17 (.int .i64 1) fun v86 =>
k [s0, s1, s2, s3, s4, s10, s11, s12, s13, s14, s15, s16, v86, s18, s19, s20, s21, s22, s23, s24, s25, s26, s37, s68, s84, s89, s98, s135, s154, s158, s164, s220] H : R))
noncomputable def r7_29 (k : KT R) : KT R := fun fr H => opn 32 fr (fun s0 s1 s2 s3 s4 s10 s11 s12 s13 s14 s15 s16 s17 s18 s19 s20 s21 s22 s23 s24 s25 s26 s37 s68 s84 s89 s98 s135 s154 s158 s164 s220 => 
(qAdd X 3 s23 (.int .i64 1) fun v160 =>
k [s0, s1, s2, s3, s4, s10, s11, s12, s13, s14, s15, s16, s17, s18, s19, s20, s21, s22, v160, s24, s25, s26, s37, s68, s84, s89, s98, s135, s154, s158, s164, s220] H : R))
noncomputable def r7_32 (k : KT R) : KT R := fun fr H => opn 32 fr (fun s0 s1 s2 s3 s4 s10 s11 s12 s13 s14 s15 s16 s17 s18 s19 s20 s21 s22 s23 s24 s25 s26 s37 s68 s84 s89 s98 s135 s154 s158 s164 s220 => 
(qAdd X 3 s24 (.int .i64 1) fun v166 =>
k [s0, s1, s2, s3, s4, s10, s11, s12, s13, s14, s15, s16, s17, s18, s19, s20, s21, s22, s23, v166, s25, s26, s37, s68, s84, s89, s98, s135, s154, s158, s164, s220] H : R))
noncomputable def r7_35 (k : KT R) : KT R := fun fr H => opn 32 fr (fun s0 s1 s2 s3 s4 s10 s11 s12 s13 s14 s15 s16 s17 s18 s19 s20 s21 s22 s23 s24 s25 s26 s37 s68 s84 s89 s98 s135 s154 s158 s164 s220 => 
(k [s0, s1, s2, s3, s4, (.bool false), s11, s12, s13, s14, s15, s16, s17, s18, s19, s20, s21, s22, s23, s24, s25, s26, s37, s68, s84, s89, s98, s135, s154, s158, s164, s220] H : R))
noncomputable def r7_34 (k : KT R) : KT R := fun fr H => opn 32 fr (fun s0 s1 s2 s3 s4 s10 s11 s12 s13 s14 s15 s16 s17 s18 s19 s20 s21 s22 s23 s24 s25 s26 s37 s68 s84 s89 s98 s135 s154 s158 s164 s220 => 
(qIa 1 s12 s24 fun v188 =>
qLd v188 H fun v189 =>
qMul X 3 s25 v189 fun v190 =>
qIa 1 s12 s23 fun v194 =>
qLd v194 H fun v195 =>
qMul X 3 s26 v195 fun v196 =>
qSub X 3 v190 v196 fun v197 =>
qIa 1 s12 s23 fun v200 =>
qLd v200 H fun v201 =>
qIa 1 s12 s24 fun v204 =>
qLd v204 H fun v205 =>
qMul X 3 v201 v205 fun v206 =>
qMul X 3 v206 s11 fun v208 =>
qIa 1 s12 s23 fun v211 =>
qLd v211 H fun v212 =>
qIa 1 s12 s24 fun v215 =>
qLd v215 H fun v216 =>
qAdd X 3 v212 v216 fun v217 =>
qMul X 3 (.int .i64 50) v217 fun v218 =>
qAdd X 3 v208 v218 fun v219 =>
qGtr X 3 v197 v219 fun v220 =>
k [s0, s1, s2, s3, s4, s10, s11, s12, s13, s14, s15, s16, s17, s18, s19, s20, s21, s22, s23, s24, s25, s26, s37, s68, s84, s89, s98, s135, s154, s158, s164, v220] H : R))
noncomputable def r7_33 (k : KT R) : KT R := fun fr H => opn 32 fr (fun s0 s1 s2 s3 s4 s10 s11 s12 s13 s14 s15 s16 s17 s18 s19 s20 s21 s22 s23 s24 s25 s26 s37 s68 s84 s89 s98 s135 s154 s158 s164 s220 => 
(qIa 1 s22 s23 fun v169 =>
qLd v169 H fun v170 =>
qIa 1 s16 s23 fun v173 =>
qLd v173 H fun v174 =>
qSub X 3 v170 v174 fun v175 =>
qIa 1 s22 s24 fun v178 =>
qLd v178 H fun v179 =>
qIa 1 s16 s24 fun v182 =>
qLd v182 H fun v183 =>
qSub X 3 v179 v183 fun v184 =>
k [s0, s1, s2, s3, s4, s10, s11, s12, s13, s14, s15, s16, s17, s18, s19, s20, s21, s22, s23, s24, v175, v184, s37, s68, s84, s89, s98, s135, s154, s158, s164, s220] H : R))
noncomputable def r7_31 (k : KT R) : KT R := fun fr H => opn 32 fr (fun s0 s1 s2 s3 s4 s10 s11 s12 s13 s14 s15 s16 s17 s18 s19 s20 s21 s22 s23 s24 s25 s26 s37 s68 s84 s89 s98 s135 s154 s158 s164 s220 => 
(qLenL s12 fun v163 =>
qLss X 3 s24 v163 fun v164 =>
k [s0, s1, s2, s3, s4, s10, s11, s12, s13, s14, s15, s16, s17, s18, s19, s20, s21, s22, s23, s24, s25, s26, s37, s68, s84, s89, s98, s135, s154, s158, v164, s220] H : R))
noncomputable def l7_11 (k7 : KT R) (kr : KT R) : KT R → KT R := fun k8 => (r7_31 (qCd (sel 30) (fun k11 => k11) (fun _ => k7) (qBl (fun k9 => (r7_33 (r7_34 (qCd (sel 31) (fun _ => (r7_35 kr)) (fun k10 => k10) k9)))) (r7_32 k8))))
noncomputable def r7_30 (k : KT R) : KT R := fun fr H => opn 32 fr (fun s0 s1 s2 s3 s4 s10 s11 s12 s13 s14 s15 s16 s17 s18 s19 s20 s21 s22 s23 s24 s25 s26 s37 s68 s84 s89 s98 s135 s154 s158 s164 s220 => 
(k [s0, s1, s2, s3, s4, s10, s11, s12, s13, s14, s15, s16, s17, s18, s19, s20, s21, s22, s23, (.int .i64 0), s25, s26, s37, s68, s84, s89, s98, s135, s154, s158, s164, s220] H : R))
noncomputable def r7_28 (k : KT R) : KT R := fun fr H => opn 32 fr (fun s0 s1 s2 s3 s4 s10 s11 s12 s13 s14 s15 s16 s17 s18 s19 s20 s21 s22 s23 s24 s25 s26 s37 s68 s84 s89 s98 s135 s154 s158 s164 s220 => 
(qLenL s12 fun v157 =>
qLss X 3 s23 v157 fun v158 =>
k [s0, s1, s2, s3, s4, s10, s11, s12, s13, s14, s15, s16, s17, s18, s19, s20, s21, s22, s23, s24, s25, s26, s37, s68, s84, s89, s98, s135, s154, v158, s164, s220] H : R))
noncomputable def l7_12 (k4 : KT R) (kr : KT R) : KT R → KT R := fun k5 => (r7_28 (qCd (sel 29) (fun k12 => k12) (fun _ => k4) (qBl (fun k6 => (r7_30 (qBl (fun k7 => (qLoop (l7_11 k7 kr))) k6))) (r7_29 k5))))
noncomputable def r7_27 (k : KT R) : KT R := fun fr H => opn 32 fr (fun s0 s1 s2 s3 s4 s10 s11 s12 s13 s14 s15 s16 s17 s18 s19 s20 s21 s22 s23 s24 s25 s26 s37 s68 s84 s89 s98 s135 s154 s158 s164 s220 => 
(k [s0, s1, s2, s3, s4, s10, s11, s12, s13, s14, s15, s16, s17, s18, s19, s20, s21, s22, (.int .i64 0), s24, s25, s26, s37, s68, s84, s89, s98, s135, s154, s158, s164, s220] H : R))
noncomputable def r7_26 (k : KT R) : KT R := fun fr H => opn 32 fr (fun s0 s1 s2 s3 s4 s10 s11 s12 s13 s14 s15 s16 s17 s18 s19 s20 s21 s22 s23 s24 s25 s26 s37 s68 s84 s89 s98 s135 s154 s158 s164 s220 => 
(qLss X 3 s17 s15 fun v140 =>
qG v140 false (fun k => k s22 H) H fun v142 H =>
qG v140 false (fun k => qLenL v142 fun v => k v H) H fun v143 H =>
qG v140 false (fun k => k s12 H) H fun v144 H =>
qG v140 false (fun k => qLenL v144 fun v => k v H) H fun v145 H =>
qG v140 false (fun k => qNeq X 3 v143 v145 fun v => k v H) H fun v146 H =>
qPick v140 (.bool true) v146 fun v147 =>
qG v147 false (fun k => k s16 H) H fun v149 H =>
qG v147 false (fun k => qLenL v149 fun v => k v H) H fun v150 H =>
qG v147 false (fun k => k s12 H) H fun v151 H =>
qG v147 false (fun k => qLenL v151 fun v => k v H) H fun v152 H =>
qG v147 false (fun k => qNeq X 3 v150 v152 fun v => k v H) H fun v153 H =>
qPick v147 (.bool true) v153 fun v154 =>
k [s0, s1, s2, s3, s4, s10, s11, s12, s13, s14, s15, s16, s17, s18, s19, s20, s21, s22, s23, s24, s25, s26, s37, s68, s84, s89, s98, s135, v154, s158, s164, s220] H : R))
noncomputable def r7_25 (C : CallF) (k : KT R) : KT R := fun fr H => opn 32 fr (fun s0 s1 s2 s3 s4 s10 s11 s12 s13 s14 s15 s16 s17 s18 s19 s20 s21 s22 s23 s24 s25 s26 s37 s68 s84 s89 s98 s135 s154 s158 s164 s220 => 
(qRes (C 30 [s14] H) fun v137 H =>
k [s0, s1, s2, s3, s4, s10, s11, s12, s13, s14, s15, s16, s17, s18, s19, s20, s21, v137, s23, s24, s25, s26, s37, s68, s84, s89, s98, s135, s154, s158, s164, s220] H : R))
noncomputable def r7_24 (k : KT R) : KT R := fun fr H => opn 32 fr (fun s0 s1 s2 s3 s4 s10 s11 s12 s13 s14 s15 s16 s17 s18 s19 s20 s21 s22 s23 s24 s25 s26 s37 s68 s84 s89 s98 s135 s154 s158 s164 s220 => 
(k [s0, s1, s2, s3, s4, (.bool false), s11, s12, s13, s14, s15, s16, s17, s18, s19, s20, s21, s22, s23, s24, s25, s26, s37, s68, s84, s89, s98, s135, s154, s158, s164, s220] H : R))
noncomputable def r7_23 (k : KT R) : KT R := fun fr H => opn 32 fr (fun s0 s1 s2 s3 s4 s10 s11 s12 s13 s14 s15 s16 s17 s18 s19 s20 s21 s22 s23 s24 s25 s26 s37 s68 s84 s89 s98 s135 s154 s158 s164 s220 => 
(qNot s21 fun v125 =>
qG v125 false (fun k => k s20 H) H fun v127 H =>
qG v125 false (fun k => qLss X 3 v127 (.int .i64 0) fun v => k v H) H fun v128 H =>
qPick v125 (.bool true) v128 fun v129 =>
qG v129 false (fun k => k s20 H) H fun v131 H =>
qG v129 false (fun k => k s12 H) H fun v132 H =>
qG v129 false (fun k => qLenL v132 fun v => k v H) H fun v133 H =>
qG v129 false (fun k => qGeq X 3 v131 v133 fun v => k v H) H fun v134 H =>
qPick v129 (.bool true) v134 fun v135 =>
k [s0, s1, s2, s3, s4, s10, s11, s12, s13, s14, s15, s16, s17, s18, s19, s20, s21, s22, s23, s24, s25, s26, s37, s68, s84, s89, s98, v135, s154, s158, s164, s220] H : R))
noncomputable def r7_22 (C : CallF) (k : KT R) : KT R := fun fr H => opn 32 fr (fun s0 s1 s2 s3 s4 s10 s11 s12 s13 s14 s15 s16 s17 s18 s19 s20 s21 s22 s23 s24 s25 s26 s37 s68 s84 s89 s98 s135 s154 s158 s164 s220 => 
(qRes (C 27 [s14, s18] H) fun v121 H =>
qExt v121 0 fun v122 =>
qExt v121 1 fun v123 =>
k [s0, s1, s2, s3, s4, s10, s11, s12, s13, s14, s15, s16, s17, s18, s19, v122, v123, s22, s23, s24, s25, s26, s37, s68, s84, s89, s98, s135, s154, s158, s164, s220] H : R))
noncomputable def r7_20 (k : KT R) : KT R := fun fr H => opn 32 fr (fun s0 s1 s2 s3 s4 s10 s11 s12 s13 s14 s15 s16 s17 s18 s19 s20 s21 s22 s23 s24 s25 s26 s37 s68 s84 s89 s98 s135 s154 s158 s164 s220 => 
(qAdd X 3 s19 (.int .i64 1) fun v100 =>
k [s0, s1, s2, s3, s4, s10, s11, s12, s13, s14, s15, s16, s17, s18, v100, s20, s21, s22, s23, s24, s25, s26, s37, s68, s84, s89, s98, s135, s154, s158, s164, s220] H : R))
noncomputable def r7_21 (C : CallF) (k : KT R) : KT R := fun fr H => opn 32 fr (fun s0 s1 s2 s3 s4 s10 s11 s12 s13 s14 s15 s16 s17 s18 s19 s20 s21 s22 s23 s24 s25 s26 s37 s68 s84 s89 s98 s135 s154 s158 s164 s220 => 
(qLenL s18 fun v106 =>
qMul X 3 s17 v106 fun v107 =>
qAdd X 3 v107 s19 fun v109 =>
qLenL s2 fun v111 =>
qRem X 3 v109 v111 fun v112 =>
qIa 1 s2 v112 fun v113 =>
qLd v113 H fun v114 =>
qRes (C 23 [v114, (.int .i64 50)] H) fun v115 H =>
qAdd X 3 (.int .i64 1) v115 fun v116 =>
qIa 1 s18 s19 fun v117 =>
qSt 1 v117 v116 H fun _ H =>
k [s0, s1, s2, s3, s4, s10, s11, s12, s13, s14, s15, s16, s17, s18, s19, s20, s21, s22, s23, s24, s25, s26, s37, s68, s84, s89, s98, s135, s154, s158, s164, s220] H : R))
noncomputable def r7_19 (k : KT R) : KT R := fun fr H => opn 32 fr (fun s0 s1 s2 s3 s4 s10 s11 s12 s13 s14 s15 s16 s17 s18 s19 s20 s21 s22 s23 s24 s25 s26 s37 s68 s84 s89 s98 s135 s154 s158 s164 s220 => 
(qLenL s18 fun v97 =>
qLss X 3 s19 v97 fun v98 =>
k [s0, s1, s2, s3, s4, s10, s11, s12, s13, s14, s15, s16, s17, s18, s19, s20, s21, s22, s23, s24, s25, s26, s37, s68, s84, s89, v98, s135, s154, s158, s164, s220] H : R))
noncomputable def l7_18 (C : CallF) (k15 : KT R) : KT R → KT R := fun k16 => (r7_19 (qCd (sel 26) (fun k18 => k18) (fun _ => k15) (qBl (fun k17 => (r7_21 C k17)) (r7_20 k16))))
noncomputable def r7_18 (k : KT R) : KT R := fun fr H => opn 32 fr (fun s0 s1 s2 s3 s4 s10 s11 s12 s13 s14 s15 s16 s17 s18 s19 s20 s21 s22 s23 s24 s25 s26 s37 s68 s84 s89 s98 s135 s154 s158 s164 s220 => 
(k [s0, s1, s2, s3, s4, s10, s11, s12, s13, s14, s15, s16, s17, s18, (.int .i64 0), s20, s21, s22, s23, s24, s25, s26, s37, s68, s84, s89, s98, s135, s154, s158, s164, s220] H : R))
noncomputable def r7_17 (k : KT R) : KT R := fun fr H => opn 32 fr (fun s0 s1 s2 s3 s4 s10 s11 s12 s13 s14 s15 s16 s17 s18 s19 s20 s21 s22 s23 s24 s25 s26 s37 s68 s84 s89 s98 s135 s154 s158 s164 s220 => 
(qLenL s12 fun v93 =>
qMkS z3 1 8 v93 v93 H fun v94 H =>
k [s0, s1, s2, s3, s4, s10, s11, s12, s13, s14, s15, s16, s17, v94, s19, s20, s21, s22, s23, s24, s25, s26, s37, s68, s84, s89, s98, s135, s154, s158, s164, s220] H : R))
noncomputable def r7_16 (C : CallF) (k : KT R) : KT R := fun fr H => opn 32 fr (fun s0 s1 s2 s3 s4 s10 s11 s12 s13 s14 s15 s16 s17 s18 s19 s20 s21 s22 s23 s24 s25 s26 s37 s68 s84 s89 s98 s135 s154 s158 s164 s220 => 
(qRes (C 30 [s14] H) fun v91 H =>
k [s0, s1, s2, s3, s4, s10, s11, s12, s13, s14, s15, v91, s17, s18, s19, s20, s21, s22, s23, s24, s25, s26, s37, s68, s84, s89, s98, s135, s154, s158, s164, s220] H : R))
noncomputable def r7_15 (k : KT R) : KT R := fun fr H => opn 32 fr (fun s0 s1 s2 s3 s4 s10 s11 s12 s13 s14 s15 s16 s17 s18 s19 s20 s21 s22 s23 s24 s25 s26 s37 s68 s84 s89 s98 s135 s154 s158 s164 s220 => 
(qEql X 3 s17 s15 fun v89 =>
k [s0, s1, s2, s3, s4, s10, s11, s12, s13, s14, s15, s16, s17, s18, s19, s20, s21, s22, s23, s24, s25, s26, s37, s68, s84, v89, s98, s135, s154, s158, s164, s220] H : R))
noncomputable def r7_13 (C : CallF) (k : KT R) : KT R := fun fr H => opn 32 fr (fun s0 s1 s2 s3 s4 s10 s11 s12 s13 s14 s15 s16 s17 s18 s19 s20 s21 s22 s23 s24 s25 s26 s37 s68 s84 s89 s98 s135 s154 s158 s164 s220 => 
(qRes (C 23 [s4, (.int .i64 150)] H) fun v82 H =>
qAdd X 3 s15 v82 fun v83 =>
qLss X 3 s17 v83 fun v84 =>
k [s0, s1, s2, s3, s4, s10, s11, s12, s13, s14, s15, s16, s17, s18, s19, s20, s21, s22, s23, s24, s25, s26, s37, s68, v84, s89, s98, s135, s154, s158, s164, s220] H : R))
noncomputable def l7_20 (C : CallF) (k1 : KT R) (kr : KT R) : KT R → KT R := fun k2 => (r7_13 C (qCd (sel 24) (fun k20 => k20) (fun _ => k1) (qBl (fun k3 => (r7_15 (qCd (sel 25) (fun k19 => (r7_16 C k19)) (fun k19 => k19) (r7_17 (r7_18 (qBl (fun k15 => (qLoop (l7_18 C k15))) (r7_22 C (r7_23 (qCd (sel 27) (fun _ => (r7_24 kr)) (fun k14 => k14) (r7_25 C (r7_26 (qCd (sel 28) (fun _ => k3) (fun k13 => k13) (r7_27 (qBl (fun k4 => (qLoop (l7_12 k4 kr))) k3)))))))))))))) (r7_14 k2))))
noncomputable def r7_12 (k : KT R) : KT R := fun fr H => opn 32 fr (fun s0 s1 s2 s3 s4 s10 s11 s12 s13 s14 s15 s16 s17 s18 s19 s20 s21 s22 s23 s24 s25 s26 s37 s68 s84 s89 s98 s135 s154 s158 s164 s220 => 
(k [s0, s1, s2, s3, s4, s10, s11, s12, s13, s14, s15, s16, (.int .i64 0), s18, s19, s20, s21, s22, s23, s24, s25, s26, s37, s68, s84, s89, s98, s135, s154, s158, s164, s220] H : R))
noncomputable def r7_11 (k : KT R) : KT R := fun fr H => opn 32 fr (fun s0 s1 s2 s3 s4 s10 s11 s12 s13 s14 s15 s16 s17 s18 s19 s20 s21 s22 s23 s24 s25 s26 s37 s68 s84 s89 s98 s135 s154 s158 s164 s220 => 
(qLenL s12 fun v77 =>
qMkS z3 1 8 v77 v77 H fun v78 H =>
k [s0, s1, s2, s3, s4, s10, s11, s12, s13, s14, s15, v78, s17, s18, s19, s20, s21, s22, s23, s24, s25, s26, s37, s68, s84, s89, s98, s135, s154, s158, s164, s220] H : R))
noncomputable def r7_10 (C : CallF) (k : KT R) : KT R := fun fr H => opn 32 fr (fun s0 s1 s2 s3 s4 s10 s11 s12 s13 s14 s15 s16 s17 s18 s19 s20 s21 s22 s23 s24 s25 s26 s37 s68 s84 s89 s98 s135 s154 s158 s164 s220 => 
(qRes (C 23 [s3, (.int .i64 50)] H) fun v75 H =>
k [s0, s1, s2, s3, s4, s10, s11, s12, s13, s14, v75, s16, s17, s18, s19, s20, s21, s22, s23, s24, s25, s26, s37, s68, s84, s89, s98, s135, s154, s158, s164, s220] H : R))
noncomputable def r7_9 (C : CallF) (k : KT R) : KT R := fun fr H => opn 32 fr (fun s0 s1 s2 s3 s4 s10 s11 s12 s13 s14 s15 s16 s17 s18 s19 s20 s21 s22 s23 s24 s25 s26 s37 s68 s84 s89 s98 s135 s154 s158 s164 s220 => 
(qNeq X 37 s14 (.nilp) fun v70 =>
qG v70 true (fun k => qRes (C 24 [] H) k) H fun v72 H =>
qPick v70 v72 (.bool false) fun v73 =>
k [s0, s1, s2, s3, s4, v73, s11, s12, s13, s14, s15, s16, s17, s18, s19, s20, s21, s22, s23, s24, s25, s26, s37, s68, s84, s89, s98, s135, s154, s158, s164, s220] H : R))
noncomputable def r7_8 (k : KT R) : KT R := fun fr H => opn 32 fr (fun s0 s1 s2 s3 s4 s10 s11 s12 s13 s14 s15 s16 s17 s18 s19 s20 s21 s22 s23 s24 s25 s26 s37 s68 s84 s89 s98 s135 s154 s158 s164 s220 => 
(qEql X 37 s14 (.nilp) fun v53 =>
qG v53 false (fun k => k s12 H) H fun v55 H =>
qG v53 false (fun k => qLenL v55 fun v => k v H) H fun v56 H =>
qG v53 false (fun k => qLss X 3 v56 (.int .i64 2) fun v => k v H) H fun v57 H =>
qPick v53 (.bool true) v57 fun v58 =>
qG v58 false (fun k => k s2 H) H fun v60 H =>
qG v58 false (fun k => qLenL v60 fun v => k v H) H fun v61 H =>
qG v58 false (fun k => qEql X 3 v61 (.int .i64 0) fun v => k v H) H fun v62 H =>
qPick v58 (.bool true) v62 fun v63 =>
qG v63 false (fun k => k s2 H) H fun v65 H =>
qG v63 false (fun k => qLenL v65 fun v => k v H) H fun v66 H =>
qG v63 false (fun k => qGtr X 3 v66 (.int .i64 100) fun v => k v H) H fun v67 H =>
qPick v63 (.bool true) v67 fun v68 =>
k [s0, s1, s2, s3, s4, s10, s11, s12, s13, s14, s15, s16, s17, s18, s19, s20, s21, s22, s23, s24, s25, s26, s37, v68, s84, s89, s98, s135, s154, s158, s164, s220] H : R))
noncomputable def r7_7 (C : CallF) (k : KT R) : KT R := fun fr H => opn 32 fr (fun s0 s1 s2 s3 s4 s10 s11 s12 s13 s14 s15 s16 s17 s18 s19 s20 s21 s22 s23 s24 s25 s26 s37 s68 s84 s89 s98 s135 s154 s158 s164 s220 => 
(qRes (C 25 [s11, s12] H) fun v51 H =>
k [s0, s1, s2, s3, s4, s10, s11, s12, s13, v51, s15, s16, s17, s18, s19, s20, s21, s22, s23, s24, s25, s26, s37, s68, s84, s89, s98, s135, s154, s158, s164, s220] H : R))
noncomputable def r7_5 (k : KT R) : KT R := fun fr H => opn 32 fr (fun s0 s1 s2 s3 s4 s10 s11 s12 s13 s14 s15 s16 s17 s18 s19 s20 s21 s22 s23 s24 s25 s26 s37 s68 s84 s89 s98 s135 s154 s158 s164 s220 => 
(qAdd X 3 s13 (.int .i64 1) fun v39 =>
k [s0, s1, s2, s3, s4, s10, s11, s12, v39, s14, s15, s16, s17, s18, s19, s20, s21, s22, s23, s24, s25, s26, s37, s68, s84, s89, s98, s135, s154, s158, s164, s220] H : R))
noncomputable def r7_6 (C : CallF) (k : KT R) : KT R := fun fr H => opn 32 fr (fun s0 s1 s2 s3 s4 s10 s11 s12 s13 s14 s15 s16 s17 s18 s19 s20 s21 s22 s23 s24 s25 s26 s37 s68 s84 s89 s98 s135 s154 s158 s164 s220 => 
(qIa 1 s1 s13 fun v43 =>
qLd v43 H fun v44 =>
qRes (C 23 [v44, (.int .i64 10)] H) fun v45 H =>
qAdd X 3 (.int .i64 1) v45 fun v46 =>
qRows z3 1 [(0, v46)] fun v47 =>
qApp 1 8 s12 v47 false H fun v48 H =>
k [s0, s1, s2, s3, s4, s10, s11, v48, s13, s14, s15, s16, s17, s18, s19, s20, s21, s22, s23, s24, s25, s26, s37, s68, s84, s89, s98, s135, s154, s158, s164, s220] H : R))
noncomputable def r7_4 (k : KT R) : KT R := fun fr H => opn 32 fr (fun s0 s1 s2 s3 s4 s10 s11 s12 s13 s14 s15 s16 s17 s18 s19 s20 s21 s22 s23 s24 s25 s26 s37 s68 s84 s89 s98 s135 s154 s158 s164 s220 => 
(qLenL s1 fun v32 =>
qLss X 3 s13 v32 fun v33 =>
qG v33 true (fun k => k s13 H) H fun v35 H =>
qG v33 true (fun k => qLss X 3 v35 (.int .i64 6) fun v => k v H) H fun v36 H =>
qPick v33 v36 (.bool false) fun v37 =>
k [s0, s1, s2, s3, s4, s10, s11, s12, s13, s14, s15, s16, s17, s18, s19, s20, s21, s22, s23, s24, s25, s26, v37, s68, s84, s89, s98, s135, s154, s158, s164, s220] H : R))
noncomputable def l7_25 (C : CallF) (k22 : KT R) : KT R → KT R := fun k23 => (r7_4 (qCd (sel 22) (fun k25 => k25) (fun _ => k22) (qBl (fun k24 => (r7_6 C k24)) (r7_5 k23))))
noncomputable def r7_3 (k : KT R) : KT R := fun fr H => opn 32 fr (fun s0 s1 s2 s3 s4 s10 s11 s12 s13 s14 s15 s16 s17 s18 s19 s20 s21 s22 s23 s24 s25 s26 s37 s68 s84 s89 s98 s135 s154 s158 s164 s220 => 
(k [s0, s1, s2, s3, s4, s10, s11, s12, (.int .i64 0), s14, s15, s16, s17, s18, s19, s20, s21, s22, s23, s24, s25, s26, s37, s68, s84, s89, s98, s135, s154, s158, s164, s220] H : R))
noncomputable def r7_2 (k : KT R) : KT R := fun fr H => opn 32 fr (fun s0 s1 s2 s3 s4 s10 s11 s12 s13 s14 s15 s16 s17 s18 s19 s20 s21 s22 s23 s24 s25 s26 s37 s68 s84 s89 s98 s135 s154 s158 s164 s220 => 
(k [s0, s1, s2, s3, s4, s10, s11, (.sl [] .nil), s13, s14, s15, s16, s17, s18, s19, s20, s21, s22, s23, s24, s25, s26, s37, s68, s84, s89, s98, s135, s154, s158, s164, s220] H : R))
noncomputable def r7_1 (C : CallF) (k : KT R) : KT R := fun fr H => opn 32 fr (fun s0 s1 s2 s3 s4 s10 s11 s12 s13 s14 s15 s16 s17 s18 s19 s20 s21 s22 s23 s24 s25 s26 s37 s68 s84 s89 s98 s135 s154 s158 s164 s220 => 
(qRes (C 23 [s0, (.int .i64 200)] H) fun v28 H =>
qAdd X 3 (.int .i64 50) v28 fun v29 =>
k [s0, s1, s2, s3, s4, s10, v29, s12, s13, s14, s15, s16, s17, s18, s19, s20, s21, s22, s23, s24, s25, s26, s37, s68, s84, s89, s98, s135, s154, s158, s164, s220] H : R))
noncomputable def r7_0 (k : KT R) : KT R := fun fr H => opn 32 fr (fun s0 s1 s2 s3 s4 s10 s11 s12 s13 s14 s15 s16 s17 s18 s19 s20 s21 s22 s23 s24 s25 s26 s37 s68 s84 s89 s98 s135 s154 s158 s164 s220 => 
(k [s0, s1, s2, s3, s4, (.bool false), s11, s12, s13, s14, s15, s16, s17, s18, s19, s20, s21, s22, s23, s24, s25, s26, s37, s68, s84, s89, s98, s135, s154, s158, s164, s220] H : R))
noncomputable def c7 (C : CallF) (l0 : List AV) (H : AH) (k : AV → AH → R) : R := opn 5 l0 (fun x0 x1 x2 x3 x4 => (qFn (fun kr => (r7_0 (r7_1 C (r7_2 (r7_3 (qBl (fun k22 => (qLoop (l7_25 C k22))) (r7_7 C (r7_8 (qCd (sel 23) (fun _ => (r7_9 C kr)) (fun k21 => k21) (r7_10 C (r7_11 (r7_12 (qBl (fun k1 => (qLoop (l7_20 C k1 kr))) (r7_36 C kr))))))))))))))
(fun fr H => k (sel 5 fr) H) [x0, x1, x2, x3, x4, Aes.undef, Aes.undef, Aes.undef, Aes.undef, Aes.undef, Aes.undef, Aes.undef, Aes.undef, Aes.undef, Aes.undef, Aes.undef, Aes.undef, Aes.undef, Aes.undef, Aes.undef, Aes.undef, Aes.undef, Aes.undef, Aes.undef, Aes.undef, Aes.undef, Aes.undef, Aes.undef, Aes.undef, Aes.undef, Aes.undef, Aes.undef] H : R))
/- refectory/refectorylaw24.ShareWorks -/
noncomputable def r8_24 (k : KT R) : KT R := fun fr H => opn 19 fr (fun s0 s1 s2 s6 s7 s8 s9 s10 s11 s12 s13 s14 s15 s16 s24 s44 s60 s81 s95 => 
(k [s0, s1, s2, (.bool false), s7, s8, s9, s10, s11, s12, s13, s14, s15, s16, s24, s44, s60, s81, s95] H : R))
noncomputable def r8_20 (k : KT R) : KT R := fun fr H => opn 19 fr (fun s0 s1 s2 s6 s7 s8 s9 s10 s11 s12 s13 s14 s15 s16 s24 s44 s60 s81 s95 => 
(qAdd X 3 s14 (.int .i64 1) fun v83 =>
k [s0, s1, s2, s6, s7, s8, s9, s10, s11, s12, s13, v83, s15, s16, s24, s44, s60, s81, s95] H : R))
noncomputable def r8_23 (C : CallF) (k : KT R) : KT R := fun fr H => opn 19 fr (fun s0 s1 s2 s6 s7 s8 s9 s10 s11 s12 s13 s14 s15 s16 s24 s44 s60 s81 s95 => 
(qRes (C 24 [] H) fun v96 H =>
k [s0, s1, s2, v96, s7, s8, s9, s10, s11, s12, s13, s14, s15, s16, s24, s44, s60, s81, s95] H : R))
noncomputable def r8_22 (k : KT R) : KT R := fun fr H => opn 19 fr (fun s0 s1 s2 s6 s7 s8 s9 s10 s11 s12 s13 s14 s15 s16 s24 s44 s60 s81 s95 => 
(qG s16 true (fun k => k s15 H) H fun v92 H =>
qG s16 true (fun k => k s10 H) H fun v93 H =>
qG s16 true (fun k => qEql X 3 v92 v93 fun v => k v H) H fun v94 H =>
qPick s16 v94 (.bool false) fun v95 =>
k [s0, s1, s2, s6, s7, s8, s9, s10, s11, s12, s13, s14, s15, s16, s24, s44, s60, s81, v95] H : R))
noncomputable def r8_21 (C : CallF) (k : KT R) : KT R := fun fr H => opn 19 fr (fun s0 s1 s2 s6 s7 s8 s9 s10 s11 s12 s13 s14 s15 s16 s24 s44 s60 s81 s95 => 
(qRes (C 27 [s9, s11] H) fun v87 H =>
qExt v87 0 fun v88 =>
qExt v87 1 fun v89 =>
k [s0, s1, s2, s6, s7, s8, s9, s10, s11, s12, s13, s14, v88, v89, s24, s44, s60, s81, s95] H : R))
noncomputable def r8_19 (k : KT R) : KT R := fun fr H => opn 19 fr (fun s0 s1 s2 s6 s7 s8 s9 s10 s11 s12 s13 s14 s15 s16 s24 s44 s60 s81 s95 => 
(qLeq X 3 s14 s12 fun v81 =>
k [s0, s1, s2, s6, s7, s8, s9, s10, s11, s12, s13, s14, s15, s16, s24, s44, s60, v81, s95] H : R))
noncomputable def l8_5 (C : CallF) (k1 : KT R) (kr : KT R) : KT R → KT R := fun k2 => (r8_19 (qCd (sel 17) (fun k5 => k5) (fun _ => k1) (qBl (fun k3 => (r8_21 C (r8_22 (qCd (sel 18) (fun _ => (r8_23 C kr)) (fun k4 => k4) k3)))) (r8_20 k2))))
noncomputable def r8_18 (k : KT R) : KT R := fun fr H => opn 19 fr (fun s0 s1 s2 s6 s7 s8 s9 s10 s11 s12 s13 s14 s15 s16 s24 s44 s60 s81 s95 => 
(k [s0, s1, s2, s6, s7, s8, s9, s10, s11, s12, s13, (.int .i64 0), s15, s16, s24, s44, s60, s81, s95] H : R))
noncomputable def r8_17 (C : CallF) (k : KT R) : KT R := fun fr H => opn 19 fr (fun s0 s1 s2 s6 s7 s8 s9 s10 s11 s12 s13 s14 s15 s16 s24 s44 s60 s81 s95 => 
(qRes (C 23 [s2, (.int .i64 50)] H) fun v76 H =>
qAdd X 3 (.int .i64 1) v76 fun v77 =>
qIa 1 s11 s10 fun v78 =>
qSt 1 v78 v77 H fun _ H =>
k [s0, s1, s2, s6, s7, s8, s9, s10, s11, s12, s13, s14, s15, s16, s24, s44, s60, s81, s95] H : R))
noncomputable def r8_14 (k : KT R) : KT R := fun fr H => opn 19 fr (fun s0 s1 s2 s6 s7 s8 s9 s10 s11 s12 s13 s14 s15 s16 s24 s44 s60 s81 s95 => 
(qAdd X 3 s13 (.int .i64 1) fun v62 =>
k [s0, s1, s2, s6, s7, s8, s9, s10, s11, s12, v62, s14, s15, s16, s24, s44, s60, s81, s95] H : R))
noncomputable def r8_16 (k : KT R) : KT R := fun fr H => opn 19 fr (fun s0 s1 s2 s6 s7 s8 s9 s10 s11 s12 s13 s14 s15 s16 s24 s44 s60 s81 s95 => 
(qIa 1 s7 s13 fun v69 =>
qLd v69 H fun v70 =>
qMul X 3 (.int .i64 100) v70 fun v71 =>
qAdd X 3 s12 v71 fun v72 =>
k [s0, s1, s2, s6, s7, s8, s9, s10, s11, v72, s13, s14, s15, s16, s24, s44, s60, s81, s95] H : R))
noncomputable def r8_15 (k : KT R) : KT R := fun fr H => opn 19 fr (fun s0 s1 s2 s6 s7 s8 s9 s10 s11 s12 s13 s14 s15 s16 s24 s44 s60 s81 s95 => 
(qIa 1 s11 s13 fun v65 =>
qSt 1 v65 (.int .i64 1) H fun _ H =>
k [s0, s1, s2, s6, s7, s8, s9, s10, s11, s12, s13, s14, s15, s16, s24, s44, s60, s81, s95] H : R))
noncomputable def r8_13 (k : KT R) : KT R := fun fr H => opn 19 fr (fun s0 s1 s2 s6 s7 s8 s9 s10 s11 s12 s13 s14 s15 s16 s24 s44 s60 s81 s95 => 
(qLenL s11 fun v59 =>
qLss X 3 s13 v59 fun v60 =>
k [s0, s1, s2, s6, s7, s8, s9, s10, s11, s12, s13, s14, s15, s16, s24, s44, v60, s81, s95] H : R))
noncomputable def l8_9 (k6 : KT R) : KT R → KT R := fun k7 => (r8_13 (qCd (sel 16) (fun k9 => k9) (fun _ => k6) (qBl (fun k8 => (r8_15 (r8_16 k8))) (r8_14 k7))))
noncomputable def r8_12 (k : KT R) : KT R := fun fr H => opn 19 fr (fun s0 s1 s2 s6 s7 s8 s9 s10 s11 s12 s13 s14 s15 s16 s24 s44 s60 s81 s95 => 
(k [s0, s1, s2, s6, s7, s8, s9, s10, s11, s12, (.int .i64 0), s14, s15, s16, s24, s44, s60, s81, s95] H : R))
noncomputable def r8_11 (k : KT R) : KT R := fun fr H => opn 19 fr (fun s0 s1 s2 s6 s7 s8 s9 s10 s11 s12 s13 s14 s15 s16 s24 s44 s60 s81 s95 => 
(k [s0, s1, s2, s6, s7, s8, s9, s10, s11, (.int .i64 1), s13, s14, s15, s16, s24, s44, s60, s81, s95] H : R))
noncomputable def r8_10 (k : KT R) : KT R := fun fr H => opn 19 fr (fun s0 s1 s2 s6 s7 s8 s9 s10 s11 s12 s13 s14 s15 s16 s24 s44 s60 s81 s95 => 
(qLenL s7 fun v55 =>
qMkS z3 1 8 v55 v55 H fun v56 H =>
k [s0, s1, s2, s6, s7, s8, s9, s10, v56, s12, s13, s14, s15, s16, s24, s44, s60, s81, s95] H : R))
noncomputable def r8_9 (C : CallF) (k : KT R) : KT R := fun fr H => opn 19 fr (fun s0 s1 s2 s6 s7 s8 s9 s10 s11 s12 s13 s14 s15 s16 s24 s44 s60 s81 s95 => 
(qLenL s7 fun v52 =>
qRes (C 23 [s1, v52] H) fun v53 H =>
k [s0, s1, s2, s6, s7, s8, s9, v53, s11, s12, s13, s14, s15, s16, s24, s44, s60, s81, s95] H : R))
noncomputable def r8_8 (C : CallF) (k : KT R) : KT R := fun fr H => opn 19 fr (fun s0 s1 s2 s6 s7 s8 s9 s10 s11 s12 s13 s14 s15 s16 s24 s44 s60 s81 s95 => 
(qNeq X 37 s9 (.nilp) fun v46 =>
qG v46 true (fun k => qRes (C 24 [] H) k) H fun v48 H =>
qPick v46 v48 (.bool false) fun v49 =>
k [s0, s1, s2, v49, s7, s8, s9, s10, s11, s12, s13, s14, s15, s16, s24, s44, s60, s81, s95] H : R))
noncomputable def r8_7 (k : KT R) : KT R := fun fr H => opn 19 fr (fun s0 s1 s2 s6 s7 s8 s9 s10 s11 s12 s13 s14 s15 s16 s24 s44 s60 s81 s95 => 
(qEql X 37 s9 (.nilp) fun v39 =>
qG v39 false (fun k => k s7 H) H fun v41 H =>
qG v39 false (fun k => qLenL v41 fun v => k v H) H fun v42 H =>
qG v39 false (fun k => qEql X 3 v42 (.int .i64 0) fun v => k v H) H fun v43 H =>
qPick v39 (.bool true) v43 fun v44 =>
k [s0, s1, s2, s6, s7, s8, s9, s10, s11, s12, s13, s14, s15, s16, s24, v44, s60, s81, s95] H : R))
noncomputable def r8_6 (C : CallF) (k : KT R) : KT R := fun fr H => opn 19 fr (fun s0 s1 s2 s6 s7 s8 s9 s10 s11 s12 s13 s14 s15 s16 s24 s44 s60 s81 s95 => 
(qRes (C 25 [(.int .i64 50), s7] H) fun v37 H =>
k [s0, s1, s2, s6, s7, s8, v37, s10, s11, s12, s13, s14, s15, s16, s24, s44, s60, s81, s95] H : R))
noncomputable def r8_4 (k : KT R) : KT R := fun fr H => opn 19 fr (fun s0 s1 s2 s6 s7 s8 s9 s10 s11 s12 s13 s14 s15 s16 s24 s44 s60 s81 s95 => 
(qAdd X 3 s8 (.int .i64 1) fun v26 =>
k [s0, s1, s2, s6, s7, v26, s9, s10, s11, s12, s13, s14, s15, s16, s24, s44, s60, s81, s95] H : R))
noncomputable def r8_5 (C : CallF) (k : KT R) : KT R := fun fr H => opn 19 fr (fun s0 s1 s2 s6 s7 s8 s9 s10 s11 s12 s13 s14 s15 s16 s24 s44 s60 s81 s95 => 
(qIa 1 s0 s8 fun v30 =>
qLd v30 H fun v31 =>
qRes (C 23 [v31, (.int .i64 20)] H) fun v32 H =>
qAdd X 3 (.int .i64 1) v32 fun v33 =>
qRows z3 1 [(0, v33)] fun v34 =>
qApp 1 8 s7 v34 false H fun v35 H =>
k [s0, s1, s2, s6, v35, s8, s9, s10, s11, s12, s13, s14, s15, s16, s24, s44, s60, s81, s95] H : R))
noncomputable def r8_3 (k : KT R) : KT R := fun fr H => opn 19 fr (fun s0 s1 s2 s6 s7 s8 s9 s10 s11 s12 s13 s14 s15 s16 s24 s44 s60 s81 s95 => 
(qLenL s0 fun v19 =>
qLss X 3 s8 v19 fun v20 =>
qG v20 true (fun k => k s8 H) H fun v22 H =>
qG v20 true (fun k => qLss X 3 v22 (.int .i64 8) fun v => k v H) H fun v23 H =>
qPick v20 v23 (.bool false) fun v24 =>
k [s0, s1, s2, s6, s7, s8, s9, s10, s11, s12, s13, s14, s15, s16, v24, s44, s60, s81, s95] H : R))
noncomputable def l8_14 (C : CallF) (k11 : KT R) : KT R → KT R := fun k12 => (r8_3 (qCd (sel 14) (fun k14 => k14) (fun _ => k11) (qBl (fun k13 => (r8_5 C k13)) (r8_4 k12))))
noncomputable def r8_2 (k : KT R) : KT R := fun fr H => opn 19 fr (fun s0 s1 s2 s6 s7 s8 s9 s10 s11 s12 s13 s14 s15 s16 s24 s44 s60 s81 s95 => 
(k [s0, s1, s2, s6, s7, (.int .i64 0), s9, s10, s11, s12, s13, s14, s15, s16, s24, s44, s60, s81, s95] H : R))
noncomputable def r8_1 (k : KT R) : KT R := fun fr H => opn 19 fr (fun s0 s1 s2 s6 s7 s8 s9 s10 s11 s12 s13 s14 s15 s16 s24 s44 s60 s81 s95 => 
(k [s0, s1, s2, s6, (.sl [] .nil), s8, s9, s10, s11, s12, s13, s14, s15, s16, s24, s44, s60, s81, s95] H : R))
noncomputable def r8_0 (k : KT R) : KT R := fun fr H => opn 19 fr (fun s0 s1 s2 s6 s7 s8 s9 s10 s11 s12 s13 s14 s15 s16 s24 s44 s60 s81 s95 => 
(k [s0, s1, s2, (.bool false), s7, s8, s9, s10, s11, s12, s13, s14, s15, s16, s24, s44, s60, s81, s95] H : R))
noncomputable def c8 (C : CallF) (l0 : List AV) (H : AH) (k : AV → AH → R) : R := opn 3 l0 (fun x0 x1 x2 => (qFn (fun kr => (r8_0 (r8_1 (r8_2 (qBl (fun k11 => (qLoop (l8_14 C k11))) (r8_6 C (r8_7 (qCd (sel 15) (fun _ => (r8_8 C kr)) (fun k10 => k10) (r8_9 C (r8_10 (r8_11 (r8_12 (qBl (fun k6 => (qLoop (l8_9 k6))) (r8_17 C (r8_18 (qBl (fun k1 => (qLoop (l8_5 C k1 kr))) (r8_24 kr)))))))))))))))))
(fun fr H => k (sel 3 fr) H) [x0, x1, x2, Aes.undef, Aes.undef, Aes.undef, Aes.undef, Aes.undef, Aes.undef, Aes.undef, Aes.undef, Aes.undef, Aes.undef, Aes.undef, Aes.undef, Aes.undef, Aes.undef, Aes.undef, Aes.undef] H : R))
/- refectory/refectorylaw24.ShareRounds -/
noncomputable def r9_32 (C : CallF) (k : KT R) : KT R := fun fr H => opn 26 fr (fun s0 s1 s2 s6 s7 s8 s9 s10 s11 s12 s13 s14 s15 s16 s17 s18 s19 s20 s31 s61 s71 s77 s87 s102 s108 s130 => 
(qRes (C 24 [] H) fun v131 H =>
k [s0, s1, s2, v131, s7, s8, s9, s10, s11, s12, s13, s14, s15, s16, s17, s18, s19, s20, s31, s61, s71, s77, s87, s102, s108, s130] H : R))
noncomputable def r9_29 (k : KT R) : KT R := fun fr H => opn 26 fr (fun s0 s1 s2 s6 s7 s8 s9 s10 s11 s12 s13 s14 s15 s16 s17 s18 s19 s20 s31 s61 s71 s77 s87 s102 s108 s130 => 
(qAdd X 3 s20 (.int .i64 1) fun v110 =>
k [s0, s1, s2, s6, s7, s8, s9, s10, s11, s12, s13, s14, s15, s16, s17, s18, s19, v110, s31, s61, s71, s77, s87, s102, s108, s130] H : R))
noncomputable def r9_31 (k : KT R) : KT R := fun fr H => opn 26 fr (fun s0 s1 s2 s6 s7 s8 s9 s10 s11 s12 s13 s14 s15 s16 s17 s18 s19 s20 s31 s61 s71 s77 s87 s102 s108 s130 => 
(k [s0, s1, s2, (.bool false), s7, s8, s9, s10, s11, s12, s13, s14, s15, s16, s17, s18, s19, s20, s31, s61, s71, s77, s87, s102, s108, s130] H : R))
noncomputable def r9_30 (k : KT R) : KT R := fun fr H => opn 26 fr (fun s0 s1 s2 s6 s7 s8 s9 s10 s11 s12 s13 s14 s15 s16 s17 s18 s19 s20 s31 s61 s71 s77 s87 s102 s108 s130 => 
(qLenL s19 fun v112 =>
qLenL s8 fun v114 =>
qNeq X 3 v112 v114 fun v115 =>
qG v115 false (fun k => k s19 H) H fun v117 H =>
qG v115 false (fun k => k s20 H) H fun v118 H =>
qG v115 false (fun k => qIa 1 v117 v118 fun v => k v H) H fun v119 H =>
qG v115 false (fun k => qLd v119 H fun v => k v H) H fun v120 H =>
qG v115 false (fun k => k s13 H) H fun v121 H =>
qG v115 false (fun k => k s7 H) H fun v122 H =>
qG v115 false (fun k => qMul X 3 v121 v122 fun v => k v H) H fun v123 H =>
qG v115 false (fun k => k s8 H) H fun v124 H =>
qG v115 false (fun k => k s20 H) H fun v125 H =>
qG v115 false (fun k => qIa 1 v124 v125 fun v => k v H) H fun v126 H =>
qG v115 false (fun k => qLd v126 H fun v => k v H) H fun v127 H =>
qG v115 false (fun k => qMul X 3 v123 v127 fun v => k v H) H fun v128 H =>
qG v115 false (fun k => qNeq X 3 v120 v128 fun v => k v H) H fun v129 H =>
qPick v115 (.bool true) v129 fun v130 =>
k [s0, s1, s2, s6, s7, s8, s9, s10, s11, s12, s13, s14, s15, s16, s17, s18, s19, s20, s31, s61, s71, s77, s87, s102, s108, v130] H : R))
noncomputable def r9_28 (k : KT R) : KT R := fun fr H => opn 26 fr (fun s0 s1 s2 s6 s7 s8 s9 s10 s11 s12 s13 s14 s15 s16 s17 s18 s19 s20 s31 s61 s71 s77 s87 s102 s108 s130 => 
(qLenL s8 fun v107 =>
qLss X 3 s20 v107 fun v108 =>
k [s0, s1, s2, s6, s7, s8, s9, s10, s11, s12, s13, s14, s15, s16, s17, s18, s19, s20, s31, s61, s71, s77, s87, s102, v108, s130] H : R))
noncomputable def l9_5 (k1 : KT R) (kr : KT R) : KT R → KT R := fun k2 => (r9_28 (qCd (sel 24) (fun k5 => k5) (fun _ => k1) (qBl (fun k3 => (r9_30 (qCd (sel 25) (fun _ => (r9_31 kr)) (fun k4 => k4) k3))) (r9_29 k2))))
noncomputable def r9_27 (k : KT R) : KT R := fun fr H => opn 26 fr (fun s0 s1 s2 s6 s7 s8 s9 s10 s11 s12 s13 s14 s15 s16 s17 s18 s19 s20 s31 s61 s71 s77 s87 s102 s108 s130 => 
(k [s0, s1, s2, s6, s7, s8, s9, s10, s11, s12, s13, s14, s15, s16, s17, s18, s19, (.int .i64 0), s31, s61, s71, s77, s87, s102, s108, s130] H : R))
noncomputable def r9_26 (C : CallF) (k : KT R) : KT R := fun fr H => opn 26 fr (fun s0 s1 s2 s6 s7 s8 s9 s10 s11 s12 s13 s14 s15 s16 s17 s18 s19 s20 s31 s61 s71 s77 s87 s102 s108 s130 => 
(qRes (C 30 [s12] H) fun v104 H =>
k [s0, s1, s2, s6, s7, s8, s9, s10, s11, s12, s13, s14, s15, s16, s17, s18, v104, s20, s31, s61, s71, s77, s87, s102, s108, s130] H : R))
noncomputable def r9_16 (k : KT R) : KT R := fun fr H => opn 26 fr (fun s0 s1 s2 s6 s7 s8 s9 s10 s11 s12 s13 s14 s15 s16 s17 s18 s19 s20 s31 s61 s71 s77 s87 s102 s108 s130 => 
(qAdd X 3 s14 (.int .i64 1) fun v73 =>
k [s0, s1, s2, s6, s7, s8, s9, s10, s11, s12, s13, v73, s15, s16, s17, s18, s19, s20, s31, s61, s71, s77, s87, s102, s108, s130] H : R))
noncomputable def r9_19 (k : KT R) : KT R := fun fr H => opn 26 fr (fun s0 s1 s2 s6 s7 s8 s9 s10 s11 s12 s13 s14 s15 s16 s17 s18 s19 s20 s31 s61 s71 s77 s87 s102 s108 s130 => 
(qAdd X 3 s15 (.int .i64 1) fun v79 =>
k [s0, s1, s2, s6, s7, s8, s9, s10, s11, s12, s13, s14, v79, s16, s17, s18, s19, s20, s31, s61, s71, s77, s87, s102, s108, s130] H : R))
noncomputable def r9_22 (k : KT R) : KT R := fun fr H => opn 26 fr (fun s0 s1 s2 s6 s7 s8 s9 s10 s11 s12 s13 s14 s15 s16 s17 s18 s19 s20 s31 s61 s71 s77 s87 s102 s108 s130 => 
(qAdd X 3 s16 (.int .i64 1) fun v89 =>
k [s0, s1, s2, s6, s7, s8, s9, s10, s11, s12, s13, s14, s15, v89, s17, s18, s19, s20, s31, s61, s71, s77, s87, s102, s108, s130] H : R))
noncomputable def r9_25 (k : KT R) : KT R := fun fr H => opn 26 fr (fun s0 s1 s2 s6 s7 s8 s9 s10 s11 s12 s13 s14 s15 s16 s17 s18 s19 s20 s31 s61 s71 s77 s87 s102 s108 s130 => 
(k [s0, s1, s2, (.bool false), s7, s8, s9, s10, s11, s12, s13, s14, s15, s16, s17, s18, s19, s20, s31, s61, s71, s77, s87, s102, s108, s130] H : R))
noncomputable def r9_24 (k : KT R) : KT R := fun fr H => opn 26 fr (fun s0 s1 s2 s6 s7 s8 s9 s10 s11 s12 s13 s14 s15 s16 s17 s18 s19 s20 s31 s61 s71 s77 s87 s102 s108 s130 => 
(qNot s18 fun v97 =>
qG v97 false (fun k => k s17 H) H fun v99 H =>
qG v97 false (fun k => k s15 H) H fun v100 H =>
qG v97 false (fun k => qNeq X 3 v99 v100 fun v => k v H) H fun v101 H =>
qPick v97 (.bool true) v101 fun v102 =>
k [s0, s1, s2, s6, s7, s8, s9, s10, s11, s12, s13, s14, s15, s16, s17, s18, s19, s20, s31, s61, s71, s77, s87, v102, s108, s130] H : R))
noncomputable def r9_23 (C : CallF) (k : KT R) : KT R := fun fr H => opn 26 fr (fun s0 s1 s2 s6 s7 s8 s9 s10 s11 s12 s13 s14 s15 s16 s17 s18 s19 s20 s31 s61 s71 s77 s87 s102 s108 s130 => 
(qRes (C 27 [s12, s9] H) fun v93 H =>
qExt v93 0 fun v94 =>
qExt v93 1 fun v95 =>
k [s0, s1, s2, s6, s7, s8, s9, s10, s11, s12, s13, s14, s15, s16, v94, v95, s19, s20, s31, s61, s71, s77, s87, s102, s108, s130] H : R))
noncomputable def r9_21 (k : KT R) : KT R := fun fr H => opn 26 fr (fun s0 s1 s2 s6 s7 s8 s9 s10 s11 s12 s13 s14 s15 s16 s17 s18 s19 s20 s31 s61 s71 s77 s87 s102 s108 s130 => 
(qIa 1 s8 s15 fun v84 =>
qLd v84 H fun v85 =>
qMul X 3 s7 v85 fun v86 =>
qLss X 3 s16 v86 fun v87 =>
k [s0, s1, s2, s6, s7, s8, s9, s10, s11, s12, s13, s14, s15, s16, s17, s18, s19, s20, s31, s61, s71, s77, v87, s102, s108, s130] H : R))
noncomputable def l9_16 (C : CallF) (k12 : KT R) (kr : KT R) : KT R → KT R := fun k13 => (r9_21 (qCd (sel 22) (fun k16 => k16) (fun _ => k12) (qBl (fun k14 => (r9_23 C (r9_24 (qCd (sel 23) (fun _ => (r9_25 kr)) (fun k15 => k15) k14)))) (r9_22 k13))))
noncomputable def r9_20 (k : KT R) : KT R := fun fr H => opn 26 fr (fun s0 s1 s2 s6 s7 s8 s9 s10 s11 s12 s13 s14 s15 s16 s17 s18 s19 s20 s31 s61 s71 s77 s87 s102 s108 s130 => 
(k [s0, s1, s2, s6, s7, s8, s9, s10, s11, s12, s13, s14, s15, (.int .i64 0), s17, s18, s19, s20, s31, s61, s71, s77, s87, s102, s108, s130] H : R))
noncomputable def r9_18 (k : KT R) : KT R := fun fr H => opn 26 fr (fun s0 s1 s2 s6 s7 s8 s9 s10 s11 s12 s13 s14 s15 s16 s17 s18 s19 s20 s31 s61 s71 s77 s87 s102 s108 s130 => 
(qLenL s8 fun v76 =>
qLss X 3 s15 v76 fun v77 =>
k [s0, s1, s2, s6, s7, s8, s9, s10, s11, s12, s13, s14, s15, s16, s17, s18, s19, s20, s31, s61, s71, v77, s87, s102, s108, s130] H : R))
noncomputable def l9_17 (C : CallF) (k9 : KT R) (kr : KT R) : KT R → KT R := fun k10 => (r9_18 (qCd (sel 21) (fun k17 => k17) (fun _ => k9) (qBl (fun k11 => (r9_20 (qBl (fun k12 => (qLoop (l9_16 C k12 kr))) k11))) (r9_19 k10))))
noncomputable def r9_17 (k : KT R) : KT R := fun fr H => opn 26 fr (fun s0 s1 s2 s6 s7 s8 s9 s10 s11 s12 s13 s14 s15 s16 s17 s18 s19 s20 s31 s61 s71 s77 s87 s102 s108 s130 => 
(k [s0, s1, s2, s6, s7, s8, s9, s10, s11, s12, s13, s14, (.int .i64 0), s16, s17, s18, s19, s20, s31, s61, s71, s77, s87, s102, s108, s130] H : R))
noncomputable def r9_15 (k : KT R) : KT R := fun fr H => opn 26 fr (fun s0 s1 s2 s6 s7 s8 s9 s10 s11 s12 s13 s14 s15 s16 s17 s18 s19 s20 s31 s61 s71 s77 s87 s102 s108 s130 => 
(qLss X 3 s14 s13 fun v71 =>
k [s0, s1, s2, s6, s7, s8, s9, s10, s11, s12, s13, s14, s15, s16, s17, s18, s19, s20, s31, s61, v71, s77, s87, s102, s108, s130] H : R))
noncomputable def l9_18 (C : CallF) (k6 : KT R) (kr : KT R) : KT R → KT R := fun k7 => (r9_15 (qCd (sel 20) (fun k18 => k18) (fun _ => k6) (qBl (fun k8 => (r9_17 (qBl (fun k9 => (qLoop (l9_17 C k9 kr))) k8))) (r9_16 k7))))
noncomputable def r9_14 (k : KT R) : KT R := fun fr H => opn 26 fr (fun s0 s1 s2 s6 s7 s8 s9 s10 s11 s12 s13 s14 s15 s16 s17 s18 s19 s20 s31 s61 s71 s77 s87 s102 s108 s130 => 
(k [s0, s1, s2, s6, s7, s8, s9, s10, s11, s12, s13, (.int .i64 0), s15, s16, s17, s18, s19, s20, s31, s61, s71, s77, s87, s102, s108, s130] H : R))
noncomputable def r9_13 (C : CallF) (k : KT R) : KT R := fun fr H => opn 26 fr (fun s0 s1 s2 s6 s7 s8 s9 s10 s11 s12 s13 s14 s15 s16 s17 s18 s19 s20 s31 s61 s71 s77 s87 s102 s108 s130 => 
(qRes (C 23 [s2, (.int .i64 4)] H) fun v68 H =>
k [s0, s1, s2, s6, s7, s8, s9, s10, s11, s12, v68, s14, s15, s16, s17, s18, s19, s20, s31, s61, s71, s77, s87, s102, s108, s130] H : R))
noncomputable def r9_12 (C : CallF) (k : KT R) : KT R := fun fr H => opn 26 fr (fun s0 s1 s2 s6 s7 s8 s9 s10 s11 s12 s13 s14 s15 s16 s17 s18 s19 s20 s31 s61 s71 s77 s87 s102 s108 s130 => 
(qNeq X 37 s12 (.nilp) fun v63 =>
qG v63 true (fun k => qRes (C 24 [] H) k) H fun v65 H =>
qPick v63 v65 (.bool false) fun v66 =>
k [s0, s1, s2, v66, s7, s8, s9, s10, s11, s12, s13, s14, s15, s16, s17, s18, s19, s20, s31, s61, s71, s77, s87, s102, s108, s130] H : R))
noncomputable def r9_11 (k : KT R) : KT R := fun fr H => opn 26 fr (fun s0 s1 s2 s6 s7 s8 s9 s10 s11 s12 s13 s14 s15 s16 s17 s18 s19 s20 s31 s61 s71 s77 s87 s102 s108 s130 => 
(qEql X 37 s12 (.nilp) fun v56 =>
qG v56 false (fun k => k s8 H) H fun v58 H =>
qG v56 false (fun k => qLenL v58 fun v => k v H) H fun v59 H =>
qG v56 false (fun k => qEql X 3 v59 (.int .i64 0) fun v => k v H) H fun v60 H =>
qPick v56 (.bool true) v60 fun v61 =>
k [s0, s1, s2, s6, s7, s8, s9, s10, s11, s12, s13, s14, s15, s16, s17, s18, s19, s20, s31, v61, s71, s77, s87, s102, s108, s130] H : R))
noncomputable def r9_10 (C : CallF) (k : KT R) : KT R := fun fr H => opn 26 fr (fun s0 s1 s2 s6 s7 s8 s9 s10 s11 s12 s13 s14 s15 s16 s17 s18 s19 s20 s31 s61 s71 s77 s87 s102 s108 s130 => 
(qRes (C 25 [s7, s8] H) fun v54 H =>
k [s0, s1, s2, s6, s7, s8, s9, s10, s11, v54, s13, s14, s15, s16, s17, s18, s19, s20, s31, s61, s71, s77, s87, s102, s108, s130] H : R))
noncomputable def r9_7 (k : KT R) : KT R := fun fr H => opn 26 fr (fun s0 s1 s2 s6 s7 s8 s9 s10 s11 s12 s13 s14 s15 s16 s17 s18 s19 s20 s31 s61 s71 s77 s87 s102 s108 s130 => 
(qAdd X 3 s11 (.int .i64 1) fun v33 =>
k [s0, s1, s2, s6, s7, s8, s9, s10, v33, s12, s13, s14, s15, s16, s17, s18, s19, s20, s31, s61, s71, s77, s87, s102, s108, s130] H : R))
noncomputable def r9_9 (k : KT R) : KT R := fun fr H => opn 26 fr (fun s0 s1 s2 s6 s7 s8 s9 s10 s11 s12 s13 s14 s15 s16 s17 s18 s19 s20 s31 s61 s71 s77 s87 s102 s108 s130 => 
(qIa 1 s8 s11 fun v49 =>
qLd v49 H fun v50 =>
qAdd X 3 s10 v50 fun v51 =>
k [s0, s1, s2, s6, s7, s8, s9, v51, s11, s12, s13, s14, s15, s16, s17, s18, s19, s20, s31, s61, s71, s77, s87, s102, s108, s130] H : R))
noncomputable def r9_8 (C : CallF) (k : KT R) : KT R := fun fr H => opn 26 fr (fun s0 s1 s2 s6 s7 s8 s9 s10 s11 s12 s13 s14 s15 s16 s17 s18 s19 s20 s31 s61 s71 s77 s87 s102 s108 s130 => 
(qIa 1 s1 s11 fun v37 =>
qLd v37 H fun v38 =>
qRes (C 23 [v38, (.int .i64 6)] H) fun v39 H =>
qAdd X 3 (.int .i64 1) v39 fun v40 =>
qRows z3 1 [(0, v40)] fun v41 =>
qApp 1 8 s8 v41 false H fun v42 H =>
qRows z3 1 [(0, (.int .i64 1))] fun v44 =>
qApp 1 8 s9 v44 false H fun v45 H =>
k [s0, s1, s2, s6, s7, v42, v45, s10, s11, s12, s13, s14, s15, s16, s17, s18, s19, s20, s31, s61, s71, s77, s87, s102, s108, s130] H : R))
noncomputable def r9_6 (k : KT R) : KT R := fun fr H => opn 26 fr (fun s0 s1 s2 s6 s7 s8 s9 s10 s11 s12 s13 s14 s15 s16 s17 s18 s19 s20 s31 s61 s71 s77 s87 s102 s108 s130 => 
(qLenL s1 fun v26 =>
qLss X 3 s11 v26 fun v27 =>
qG v27 true (fun k => k s11 H) H fun v29 H =>
qG v27 true (fun k => qLss X 3 v29 (.int .i64 8) fun v => k v H) H fun v30 H =>
qPick v27 v30 (.bool false) fun v31 =>
k [s0, s1, s2, s6, s7, s8, s9, s10, s11, s12, s13, s14, s15, s16, s17, s18, s19, s20, v31, s61, s71, s77, s87, s102, s108, s130] H : R))
noncomputable def l9_23 (C : CallF) (k20 : KT R) : KT R → KT R := fun k21 => (r9_6 (qCd (sel 18) (fun k23 => k23) (fun _ => k20) (qBl (fun k22 => (r9_8 C (r9_9 k22))) (r9_7 k21))))
noncomputable def r9_5 (k : KT R) : KT R := fun fr H => opn 26 fr (fun s0 s1 s2 s6 s7 s8 s9 s10 s11 s12 s13 s14 s15 s16 s17 s18 s19 s20 s31 s61 s71 s77 s87 s102 s108 s130 => 
(k [s0, s1, s2, s6, s7, s8, s9, s10, (.int .i64 0), s12, s13, s14, s15, s16, s17, s18, s19, s20, s31, s61, s71, s77, s87, s102, s108, s130] H : R))
noncomputable def r9_4 (k : KT R) : KT R := fun fr H => opn 26 fr (fun s0 s1 s2 s6 s7 s8 s9 s10 s11 s12 s13 s14 s15 s16 s17 s18 s19 s20 s31 s61 s71 s77 s87 s102 s108 s130 => 
(k [s0, s1, s2, s6, s7, s8, s9, (.int .i64 0), s11, s12, s13, s14, s15, s16, s17, s18, s19, s20, s31, s61, s71, s77, s87, s102, s108, s130] H : R))
noncomputable def r9_3 (k : KT R) : KT R := fun fr H => opn 26 fr (fun s0 s1 s2 s6 s7 s8 s9 s10 s11 s12 s13 s14 s15 s16 s17 s18 s19 s20 s31 s61 s71 s77 s87 s102 s108 s130 => 
(k [s0, s1, s2, s6, s7, s8, (.sl [] .nil), s10, s11, s12, s13, s14, s15, s16, s17, s18, s19, s20, s31, s61, s71, s77, s87, s102, s108, s130] H : R))
noncomputable def r9_2 (k : KT R) : KT R := fun fr H => opn 26 fr (fun s0 s1 s2 s6 s7 s8 s9 s10 s11 s12 s13 s14 s15 s16 s17 s18 s19 s20 s31 s61 s71 s77 s87 s102 s108 s130 => 
(k [s0, s1, s2, s6, s7, (.sl [] .nil), s9, s10, s11, s12, s13, s14, s15, s16, s17, s18, s19, s20, s31, s61, s71, s77, s87, s102, s108, s130] H : R))
noncomputable def r9_1 (C : CallF) (k : KT R) : KT R := fun fr H => opn 26 fr (fun s0 s1 s2 s6 s7 s8 s9 s10 s11 s12 s13 s14 s15 s16 s17 s18 s19 s20 s31 s61 s71 s77 s87 s102 s108 s130 => 
(qRes (C 23 [s0, (.int .i64 20)] H) fun v22 H =>
qAdd X 3 (.int .i64 1) v22 fun v23 =>
k [s0, s1, s2, s6, v23, s8, s9, s10, s11, s12, s13, s14, s15, s16, s17, s18, s19, s20, s31, s61, s71, s77, s87, s102, s108, s130] H : R))
noncomputable def r9_0 (k : KT R) : KT R := fun fr H => opn 26 fr (fun s0 s1 s2 s6 s7 s8 s9 s10 s11 s12 s13 s14 s15 s16 s17 s18 s19 s20 s31 s61 s71 s77 s87 s102 s108 s130 => 
(k [s0, s1, s2, (.bool false), s7, s8, s9, s10, s11, s12, s13, s14, s15, s16, s17, s18, s19, s20, s31, s61, s71, s77, s87, s102, s108, s130] H : R))
noncomputable def c9 (C : CallF) (l0 : List AV) (H : AH) (k : AV → AH → R) : R := opn 3 l0 (fun x0 x1 x2 => (qFn (fun kr => (r9_0 (r9_1 C (r9_2 (r9_3 (r9_4 (r9_5 (qBl (fun k20 => (qLoop (l9_23 C k20))) (r9_10 C (r9_11 (qCd (sel 19) (fun _ => (r9_12 C kr)) (fun k19 => k19) (r9_13 C (r9_14 (qBl (fun k6 => (qLoop (l9_18 C k6 kr))) (r9_26 C (r9_27 (qBl (fun k1 => (qLoop (l9_5 k1 kr))) (r9_32 C kr))))))))))))))))))
(fun fr H => k (sel 3 fr) H) [x0, x1, x2, Aes.undef, Aes.undef, Aes.undef, Aes.undef, Aes.undef, Aes.undef, Aes.undef, Aes.undef, Aes.undef, Aes.undef, Aes.undef, Aes.undef, Aes.undef, Aes.undef, Aes.undef, Aes.undef, Aes.undef, Aes.undef, Aes.undef, Aes.undef, Aes.undef, Aes.undef, Aes.undef] H : R))
/- refectory/refectorylaw24.ShareIdle -/
noncomputable def r10_35 (C : CallF) (k : KT R) : KT R := fun fr H => opn 29 fr (fun s0 s1 s2 s6 s7 s8 s9 s10 s11 s12 s13 s14 s15 s16 s17 s19 s27 s47 s65 s71 s78 s109 s115 s136 s140 s141 s142 s143 s147 => 
(qRes (C 31 [s9] H) fun v150 H =>
qLenL v150 fun v151 =>
qLenL s7 fun v153 =>
qEql X 3 v151 v153 fun v154 =>
qG v154 true (fun k => qRes (C 24 [] H) k) H fun v156 H =>
qPick v154 v156 (.bool false) fun v157 =>
k [s0, s1, s2, v157, s7, s8, s9, s10, s11, s12, s13, s14, s15, s16, s17, s19, s27, s47, s65, s71, s78, s109, s115, s136, s140, s141, s142, s143, s147] H : R))
noncomputable def r10_34 (k : KT R) : KT R := fun fr H => opn 29 fr (fun s0 s1 s2 s6 s7 s8 s9 s10 s11 s12 s13 s14 s15 s16 s17 s19 s27 s47 s65 s71 s78 s109 s115 s136 s140 s141 s142 s143 s147 => 
(qAdd X 3 s142 (.int .i64 1) fun v148 =>
k [s0, s1, s2, s6, s7, s8, s9, s10, s11, s12, s13, s14, s15, s16, s17, s19, s27, s47, s65, s71, s78, s109, s115, s136, s140, s141, v148, s143, s147] H : R))
noncomputable def r10_33 (k : KT R) : KT R := fun fr H => opn 29 fr (fun s0 s1 s2 s6 s7 s8 s9 s10 s11 s12 s13 s14 s15 s16 s17 s19 s27 s47 s65 s71 s78 s109 s115 s136 s140 s141 s142 s143 s147 => 
(k [s0, s1, s2, (.bool false), s7, s8, s9, s10, s11, s12, s13, s14, s15, s16, s17, s19, s27, s47, s65, s71, s78, s109, s115, s136, s140, s141, s142, s143, s147] H : R))
noncomputable def r10_32 (k : KT R) : KT R := fun fr H => opn 29 fr (fun s0 s1 s2 s6 s7 s8 s9 s10 s11 s12 s13 s14 s15 s16 s17 s19 s27 s47 s65 s71 s78 s109 s115 s136 s140 s141 s142 s143 s147 => 
(qNeq X 3 s19 (.int .i64 0) fun v147 =>
k [s0, s1, s2, s6, s7, s8, s9, s10, s11, s12, s13, s14, s15, s16, s17, s19, s27, s47, s65, s71, s78, s109, s115, s136, s140, s141, s142, s143, v147] H : R))
noncomputable def r10_31 (k : KT R) : KT R := fun fr H => opn 29 fr (fun s0 s1 s2 s6 s7 s8 s9 s10 s11 s12 s13 s14 s15 s16 s17 s19 s27 s47 s65 s71 s78 s109 s115 s136 s140 s141 s142 s143 s147 => 
(qIa 1 s140 s142 fun v144 =>
qLd v144 H fun v145 =>
k [s0, s1, s2, s6, s7, s8, s9, s10, s11, s12, s13, s14, s15, s16, s17, v145, s27, s47, s65, s71, s78, s109, s115, s136, s140, s141, s142, s143, s147] H : R))
noncomputable def r10_30 (k : KT R) : KT R := fun fr H => opn 29 fr (fun s0 s1 s2 s6 s7 s8 s9 s10 s11 s12 s13 s14 s15 s16 s17 s19 s27 s47 s65 s71 s78 s109 s115 s136 s140 s141 s142 s143 s147 => 
(qLss X 3 s142 s141 fun v143 =>
k [s0, s1, s2, s6, s7, s8, s9, s10, s11, s12, s13, s14, s15, s16, s17, s19, s27, s47, s65, s71, s78, s109, s115, s136, s140, s141, s142, v143, s147] H : R))
noncomputable def l10_5 (k1 : KT R) (kr : KT R) : KT R → KT R := fun k2 => (r10_30 (qCd (sel 27) (fun k5 => k5) (fun _ => k1) (qBl (fun k3 => (r10_31 (r10_32 (qCd (sel 28) (fun _ => (r10_33 kr)) (fun k4 => k4) k3)))) (r10_34 k2))))
noncomputable def r10_29 (C : CallF) (k : KT R) : KT R := fun fr H => opn 29 fr (fun s0 s1 s2 s6 s7 s8 s9 s10 s11 s12 s13 s14 s15 s16 s17 s19 s27 s47 s65 s71 s78 s109 s115 s136 s140 s141 s142 s143 s147 => 
(qRes (C 31 [s9] H) fun v140 H =>
qLenL v140 fun v141 =>
k [s0, s1, s2, s6, s7, s8, s9, s10, s11, s12, s13, s14, s15, s16, s17, s19, s27, s47, s65, s71, s78, s109, s115, s136, v140, v141, (.int .i64 0), s143, s147] H : R))
noncomputable def r10_28 (C : CallF) (k : KT R) : KT R := fun fr H => opn 29 fr (fun s0 s1 s2 s6 s7 s8 s9 s10 s11 s12 s13 s14 s15 s16 s17 s19 s27 s47 s65 s71 s78 s109 s115 s136 s140 s141 s142 s143 s147 => 
(qRes (C 27 [s9, (.sl [] .nil)] H) fun v138 H =>
k [s0, s1, s2, s6, s7, s8, s9, s10, s11, s12, s13, s14, s15, s16, s17, s19, s27, s47, s65, s71, s78, s109, s115, s136, s140, s141, s142, s143, s147] H : R))
noncomputable def r10_25 (k : KT R) : KT R := fun fr H => opn 29 fr (fun s0 s1 s2 s6 s7 s8 s9 s10 s11 s12 s13 s14 s15 s16 s17 s19 s27 s47 s65 s71 s78 s109 s115 s136 s140 s141 s142 s143 s147 => 
(qAdd X 3 s17 (.int .i64 1) fun v117 =>
k [s0, s1, s2, s6, s7, s8, s9, s10, s11, s12, s13, s14, s15, s16, v117, s19, s27, s47, s65, s71, s78, s109, s115, s136, s140, s141, s142, s143, s147] H : R))
noncomputable def r10_27 (k : KT R) : KT R := fun fr H => opn 29 fr (fun s0 s1 s2 s6 s7 s8 s9 s10 s11 s12 s13 s14 s15 s16 s17 s19 s27 s47 s65 s71 s78 s109 s115 s136 s140 s141 s142 s143 s147 => 
(k [s0, s1, s2, (.bool false), s7, s8, s9, s10, s11, s12, s13, s14, s15, s16, s17, s19, s27, s47, s65, s71, s78, s109, s115, s136, s140, s141, s142, s143, s147] H : R))
noncomputable def r10_26 (k : KT R) : KT R := fun fr H => opn 29 fr (fun s0 s1 s2 s6 s7 s8 s9 s10 s11 s12 s13 s14 s15 s16 s17 s19 s27 s47 s65 s71 s78 s109 s115 s136 s140 s141 s142 s143 s147 => 
(qLenL s16 fun v119 =>
qLenL s7 fun v121 =>
qNeq X 3 v119 v121 fun v122 =>
qG v122 false (fun k => k s10 H) H fun v124 H =>
qG v122 false (fun k => k s17 H) H fun v125 H =>
qG v122 false (fun k => qIa 1 v124 v125 fun v => k v H) H fun v126 H =>
qG v122 false (fun k => qLd v126 H fun v => k v H) H fun v127 H =>
qG v122 false (fun k => qEql X 3 v127 (.int .i64 0) fun v => k v H) H fun v128 H =>
qG v122 false (fun k => k v128 H) H fun v129 H =>
qG v129 true (fun k => k s16 H) H fun v130 H =>
qG v129 true (fun k => k s17 H) H fun v131 H =>
qG v129 true (fun k => qIa 1 v130 v131 fun v => k v H) H fun v132 H =>
qG v129 true (fun k => qLd v132 H fun v => k v H) H fun v133 H =>
qG v129 true (fun k => qNeq X 3 v133 (.int .i64 0) fun v => k v H) H fun v134 H =>
qG v122 false (fun k => qPick v129 v134 (.bool false) fun v => k v H) H fun v135 H =>
qPick v122 (.bool true) v135 fun v136 =>
k [s0, s1, s2, s6, s7, s8, s9, s10, s11, s12, s13, s14, s15, s16, s17, s19, s27, s47, s65, s71, s78, s109, s115, v136, s140, s141, s142, s143, s147] H : R))
noncomputable def r10_24 (k : KT R) : KT R := fun fr H => opn 29 fr (fun s0 s1 s2 s6 s7 s8 s9 s10 s11 s12 s13 s14 s15 s16 s17 s19 s27 s47 s65 s71 s78 s109 s115 s136 s140 s141 s142 s143 s147 => 
(qLenL s7 fun v114 =>
qLss X 3 s17 v114 fun v115 =>
k [s0, s1, s2, s6, s7, s8, s9, s10, s11, s12, s13, s14, s15, s16, s17, s19, s27, s47, s65, s71, s78, s109, v115, s136, s140, s141, s142, s143, s147] H : R))
noncomputable def l10_10 (k6 : KT R) (kr : KT R) : KT R → KT R := fun k7 => (r10_24 (qCd (sel 22) (fun k10 => k10) (fun _ => k6) (qBl (fun k8 => (r10_26 (qCd (sel 23) (fun _ => (r10_27 kr)) (fun k9 => k9) k8))) (r10_25 k7))))
noncomputable def r10_23 (k : KT R) : KT R := fun fr H => opn 29 fr (fun s0 s1 s2 s6 s7 s8 s9 s10 s11 s12 s13 s14 s15 s16 s17 s19 s27 s47 s65 s71 s78 s109 s115 s136 s140 s141 s142 s143 s147 => 
(k [s0, s1, s2, s6, s7, s8, s9, s10, s11, s12, s13, s14, s15, s16, (.int .i64 0), s19, s27, s47, s65, s71, s78, s109, s115, s136, s140, s141, s142, s143, s147] H : R))
noncomputable def r10_22 (C : CallF) (k : KT R) : KT R := fun fr H => opn 29 fr (fun s0 s1 s2 s6 s7 s8 s9 s10 s11 s12 s13 s14 s15 s16 s17 s19 s27 s47 s65 s71 s78 s109 s115 s136 s140 s141 s142 s143 s147 => 
(qRes (C 30 [s9] H) fun v111 H =>
k [s0, s1, s2, s6, s7, s8, s9, s10, s11, s12, s13, s14, s15, v111, s17, s19, s27, s47, s65, s71, s78, s109, s115, s136, s140, s141, s142, s143, s147] H : R))
noncomputable def r10_18 (k : KT R) : KT R := fun fr H => opn 29 fr (fun s0 s1 s2 s6 s7 s8 s9 s10 s11 s12 s13 s14 s15 s16 s17 s19 s27 s47 s65 s71 s78 s109 s115 s136 s140 s141 s142 s143 s147 => 
(qAdd X 3 s13 (.int .i64 1) fun v80 =>
k [s0, s1, s2, s6, s7, s8, s9, s10, s11, s12, v80, s14, s15, s16, s17, s19, s27, s47, s65, s71, s78, s109, s115, s136, s140, s141, s142, s143, s147] H : R))
noncomputable def r10_21 (k : KT R) : KT R := fun fr H => opn 29 fr (fun s0 s1 s2 s6 s7 s8 s9 s10 s11 s12 s13 s14 s15 s16 s17 s19 s27 s47 s65 s71 s78 s109 s115 s136 s140 s141 s142 s143 s147 => 
(k [s0, s1, s2, (.bool false), s7, s8, s9, s10, s11, s12, s13, s14, s15, s16, s17, s19, s27, s47, s65, s71, s78, s109, s115, s136, s140, s141, s142, s143, s147] H : R))
noncomputable def r10_20 (k : KT R) : KT R := fun fr H => opn 29 fr (fun s0 s1 s2 s6 s7 s8 s9 s10 s11 s12 s13 s14 s15 s16 s17 s19 s27 s47 s65 s71 s78 s109 s115 s136 s140 s141 s142 s143 s147 => 
(qNeq X 4 s15 s11 fun v89 =>
qG v89 false (fun k => k s15 H) H fun v91 H =>
qG v89 false (fun k => k v91 H) H fun v92 H =>
qG v92 true (fun k => k s14 H) H fun v93 H =>
qG v92 true (fun k => qLss X 3 v93 (.int .i64 0) fun v => k v H) H fun v94 H =>
qG v92 true (fun k => k v94 H) H fun v95 H =>
qG v95 false (fun k => k s14 H) H fun v96 H =>
qG v95 false (fun k => k s10 H) H fun v97 H =>
qG v95 false (fun k => qLenL v97 fun v => k v H) H fun v98 H =>
qG v95 false (fun k => qGeq X 3 v96 v98 fun v => k v H) H fun v99 H =>
qG v92 true (fun k => qPick v95 (.bool true) v99 fun v => k v H) H fun v100 H =>
qG v92 true (fun k => k v100 H) H fun v101 H =>
qG v101 false (fun k => k s10 H) H fun v102 H =>
qG v101 false (fun k => k s14 H) H fun v103 H =>
qG v101 false (fun k => qIa 1 v102 v103 fun v => k v H) H fun v104 H =>
qG v101 false (fun k => qLd v104 H fun v => k v H) H fun v105 H =>
qG v101 false (fun k => qEql X 3 v105 (.int .i64 0) fun v => k v H) H fun v106 H =>
qG v92 true (fun k => qPick v101 (.bool true) v106 fun v => k v H) H fun v107 H =>
qG v89 false (fun k => qPick v92 v107 (.bool false) fun v => k v H) H fun v108 H =>
qPick v89 (.bool true) v108 fun v109 =>
k [s0, s1, s2, s6, s7, s8, s9, s10, s11, s12, s13, s14, s15, s16, s17, s19, s27, s47, s65, s71, s78, v109, s115, s136, s140, s141, s142, s143, s147] H : R))
noncomputable def r10_19 (C : CallF) (k : KT R) : KT R := fun fr H => opn 29 fr (fun s0 s1 s2 s6 s7 s8 s9 s10 s11 s12 s13 s14 s15 s16 s17 s19 s27 s47 s65 s71 s78 s109 s115 s136 s140 s141 s142 s143 s147 => 
(qRes (C 27 [s9, s10] H) fun v84 H =>
qExt v84 0 fun v85 =>
qExt v84 1 fun v86 =>
k [s0, s1, s2, s6, s7, s8, s9, s10, s11, s12, s13, v85, v86, s16, s17, s19, s27, s47, s65, s71, s78, s109, s115, s136, s140, s141, s142, s143, s147] H : R))
noncomputable def r10_17 (C : CallF) (k : KT R) : KT R := fun fr H => opn 29 fr (fun s0 s1 s2 s6 s7 s8 s9 s10 s11 s12 s13 s14 s15 s16 s17 s19 s27 s47 s65 s71 s78 s109 s115 s136 s140 s141 s142 s143 s147 => 
(qRes (C 23 [s2, (.int .i64 60)] H) fun v77 H =>
qLss X 3 s13 v77 fun v78 =>
k [s0, s1, s2, s6, s7, s8, s9, s10, s11, s12, s13, s14, s15, s16, s17, s19, s27, s47, s65, s71, v78, s109, s115, s136, s140, s141, s142, s143, s147] H : R))
noncomputable def l10_15 (C : CallF) (k11 : KT R) (kr : KT R) : KT R → KT R := fun k12 => (r10_17 C (qCd (sel 20) (fun k15 => k15) (fun _ => k11) (qBl (fun k13 => (r10_19 C (r10_20 (qCd (sel 21) (fun _ => (r10_21 kr)) (fun k14 => k14) k13)))) (r10_18 k12))))
noncomputable def r10_16 (k : KT R) : KT R := fun fr H => opn 29 fr (fun s0 s1 s2 s6 s7 s8 s9 s10 s11 s12 s13 s14 s15 s16 s17 s19 s27 s47 s65 s71 s78 s109 s115 s136 s140 s141 s142 s143 s147 => 
(k [s0, s1, s2, s6, s7, s8, s9, s10, s11, s12, (.int .i64 0), s14, s15, s16, s17, s19, s27, s47, s65, s71, s78, s109, s115, s136, s140, s141, s142, s143, s147] H : R))
noncomputable def r10_13 (k : KT R) : KT R := fun fr H => opn 29 fr (fun s0 s1 s2 s6 s7 s8 s9 s10 s11 s12 s13 s14 s15 s16 s17 s19 s27 s47 s65 s71 s78 s109 s115 s136 s140 s141 s142 s143 s147 => 
(qAdd X 3 s12 (.int .i64 1) fun v67 =>
k [s0, s1, s2, s6, s7, s8, s9, s10, s11, v67, s13, s14, s15, s16, s17, s19, s27, s47, s65, s71, s78, s109, s115, s136, s140, s141, s142, s143, s147] H : R))
noncomputable def r10_15 (k : KT R) : KT R := fun fr H => opn 29 fr (fun s0 s1 s2 s6 s7 s8 s9 s10 s11 s12 s13 s14 s15 s16 s17 s19 s27 s47 s65 s71 s78 s109 s115 s136 s140 s141 s142 s143 s147 => 
(qIa 1 s10 s12 fun v74 =>
qSt 1 v74 (.int .i64 7) H fun _ H =>
k [s0, s1, s2, s6, s7, s8, s9, s10, (.bool true), s12, s13, s14, s15, s16, s17, s19, s27, s47, s65, s71, s78, s109, s115, s136, s140, s141, s142, s143, s147] H : R))
noncomputable def r10_14 (k : KT R) : KT R := fun fr H => opn 29 fr (fun s0 s1 s2 s6 s7 s8 s9 s10 s11 s12 s13 s14 s15 s16 s17 s19 s27 s47 s65 s71 s78 s109 s115 s136 s140 s141 s142 s143 s147 => 
(qIa 1 s1 s12 fun v70 =>
qLd v70 H fun v71 =>
k [s0, s1, s2, s6, s7, s8, s9, s10, s11, s12, s13, s14, s15, s16, s17, s19, s27, s47, s65, v71, s78, s109, s115, s136, s140, s141, s142, s143, s147] H : R))
noncomputable def r10_12 (k : KT R) : KT R := fun fr H => opn 29 fr (fun s0 s1 s2 s6 s7 s8 s9 s10 s11 s12 s13 s14 s15 s16 s17 s19 s27 s47 s65 s71 s78 s109 s115 s136 s140 s141 s142 s143 s147 => 
(qLenL s10 fun v58 =>
qLss X 3 s12 v58 fun v59 =>
qG v59 true (fun k => k s12 H) H fun v61 H =>
qG v59 true (fun k => k s1 H) H fun v62 H =>
qG v59 true (fun k => qLenL v62 fun v => k v H) H fun v63 H =>
qG v59 true (fun k => qLss X 3 v61 v63 fun v => k v H) H fun v64 H =>
qPick v59 v64 (.bool false) fun v65 =>
k [s0, s1, s2, s6, s7, s8, s9, s10, s11, s12, s13, s14, s15, s16, s17, s19, s27, s47, v65, s71, s78, s109, s115, s136, s140, s141, s142, s143, s147] H : R))
noncomputable def l10_20 (k16 : KT R) : KT R → KT R := fun k17 => (r10_12 (qCd (sel 18) (fun k20 => k20) (fun _ => k16) (qBl (fun k18 => (r10_14 (qCd (sel 19) (fun k19 => (r10_15 k19)) (fun k19 => k19) k18))) (r10_13 k17))))
noncomputable def r10_11 (k : KT R) : KT R := fun fr H => opn 29 fr (fun s0 s1 s2 s6 s7 s8 s9 s10 s11 s12 s13 s14 s15 s16 s17 s19 s27 s47 s65 s71 s78 s109 s115 s136 s140 s141 s142 s143 s147 => 
(k [s0, s1, s2, s6, s7, s8, s9, s10, s11, (.int .i64 0), s13, s14, s15, s16, s17, s19, s27, s47, s65, s71, s78, s109, s115, s136, s140, s141, s142, s143, s147] H : R))
noncomputable def r10_10 (k : KT R) : KT R := fun fr H => opn 29 fr (fun s0 s1 s2 s6 s7 s8 s9 s10 s11 s12 s13 s14 s15 s16 s17 s19 s27 s47 s65 s71 s78 s109 s115 s136 s140 s141 s142 s143 s147 => 
(k [s0, s1, s2, s6, s7, s8, s9, s10, (.bool false), s12, s13, s14, s15, s16, s17, s19, s27, s47, s65, s71, s78, s109, s115, s136, s140, s141, s142, s143, s147] H : R))
noncomputable def r10_9 (k : KT R) : KT R := fun fr H => opn 29 fr (fun s0 s1 s2 s6 s7 s8 s9 s10 s11 s12 s13 s14 s15 s16 s17 s19 s27 s47 s65 s71 s78 s109 s115 s136 s140 s141 s142 s143 s147 => 
(qLenL s7 fun v54 =>
qMkS z3 1 8 v54 v54 H fun v55 H =>
k [s0, s1, s2, s6, s7, s8, s9, v55, s11, s12, s13, s14, s15, s16, s17, s19, s27, s47, s65, s71, s78, s109, s115, s136, s140, s141, s142, s143, s147] H : R))
noncomputable def r10_8 (C : CallF) (k : KT R) : KT R := fun fr H => opn 29 fr (fun s0 s1 s2 s6 s7 s8 s9 s10 s11 s12 s13 s14 s15 s16 s17 s19 s27 s47 s65 s71 s78 s109 s115 s136 s140 s141 s142 s143 s147 => 
(qNeq X 37 s9 (.nilp) fun v49 =>
qG v49 true (fun k => qRes (C 24 [] H) k) H fun v51 H =>
qPick v49 v51 (.bool false) fun v52 =>
k [s0, s1, s2, v52, s7, s8, s9, s10, s11, s12, s13, s14, s15, s16, s17, s19, s27, s47, s65, s71, s78, s109, s115, s136, s140, s141, s142, s143, s147] H : R))
noncomputable def r10_7 (k : KT R) : KT R := fun fr H => opn 29 fr (fun s0 s1 s2 s6 s7 s8 s9 s10 s11 s12 s13 s14 s15 s16 s17 s19 s27 s47 s65 s71 s78 s109 s115 s136 s140 s141 s142 s143 s147 => 
(qEql X 37 s9 (.nilp) fun v42 =>
qG v42 false (fun k => k s7 H) H fun v44 H =>
qG v42 false (fun k => qLenL v44 fun v => k v H) H fun v45 H =>
qG v42 false (fun k => qEql X 3 v45 (.int .i64 0) fun v => k v H) H fun v46 H =>
qPick v42 (.bool true) v46 fun v47 =>
k [s0, s1, s2, s6, s7, s8, s9, s10, s11, s12, s13, s14, s15, s16, s17, s19, s27, v47, s65, s71, s78, s109, s115, s136, s140, s141, s142, s143, s147] H : R))
noncomputable def r10_6 (C : CallF) (k : KT R) : KT R := fun fr H => opn 29 fr (fun s0 s1 s2 s6 s7 s8 s9 s10 s11 s12 s13 s14 s15 s16 s17 s19 s27 s47 s65 s71 s78 s109 s115 s136 s140 s141 s142 s143 s147 => 
(qRes (C 25 [(.int .i64 60), s7] H) fun v40 H =>
k [s0, s1, s2, s6, s7, s8, v40, s10, s11, s12, s13, s14, s15, s16, s17, s19, s27, s47, s65, s71, s78, s109, s115, s136, s140, s141, s142, s143, s147] H : R))
noncomputable def r10_4 (k : KT R) : KT R := fun fr H => opn 29 fr (fun s0 s1 s2 s6 s7 s8 s9 s10 s11 s12 s13 s14 s15 s16 s17 s19 s27 s47 s65 s71 s78 s109 s115 s136 s140 s141 s142 s143 s147 => 
(qAdd X 3 s8 (.int .i64 1) fun v29 =>
k [s0, s1, s2, s6, s7, v29, s9, s10, s11, s12, s13, s14, s15, s16, s17, s19, s27, s47, s65, s71, s78, s109, s115, s136, s140, s141, s142, s143, s147] H : R))
noncomputable def r10_5 (C : CallF) (k : KT R) : KT R := fun fr H => opn 29 fr (fun s0 s1 s2 s6 s7 s8 s9 s10 s11 s12 s13 s14 s15 s16 s17 s19 s27 s47 s65 s71 s78 s109 s115 s136 s140 s141 s142 s143 s147 => 
(qIa 1 s0 s8 fun v33 =>
qLd v33 H fun v34 =>
qRes (C 23 [v34, (.int .i64 6)] H) fun v35 H =>
qAdd X 3 (.int .i64 1) v35 fun v36 =>
qRows z3 1 [(0, v36)] fun v37 =>
qApp 1 8 s7 v37 false H fun v38 H =>
k [s0, s1, s2, s6, v38, s8, s9, s10, s11, s12, s13, s14, s15, s16, s17, s19, s27, s47, s65, s71, s78, s109, s115, s136, s140, s141, s142, s143, s147] H : R))
noncomputable def r10_3 (k : KT R) : KT R := fun fr H => opn 29 fr (fun s0 s1 s2 s6 s7 s8 s9 s10 s11 s12 s13 s14 s15 s16 s17 s19 s27 s47 s65 s71 s78 s109 s115 s136 s140 s141 s142 s143 s147 => 
(qLenL s0 fun v22 =>
qLss X 3 s8 v22 fun v23 =>
qG v23 true (fun k => k s8 H) H fun v25 H =>
qG v23 true (fun k => qLss X 3 v25 (.int .i64 8) fun v => k v H) H fun v26 H =>
qPick v23 v26 (.bool false) fun v27 =>
k [s0, s1, s2, s6, s7, s8, s9, s10, s11, s12, s13, s14, s15, s16, s17, s19, v27, s47, s65, s71, s78, s109, s115, s136, s140, s141, s142, s143, s147] H : R))
noncomputable def l10_25 (C : CallF) (k22 : KT R) : KT R → KT R := fun k23 => (r10_3 (qCd (sel 16) (fun k25 => k25) (fun _ => k22) (qBl (fun k24 => (r10_5 C k24)) (r10_4 k23))))
noncomputable def r10_2 (k : KT R) : KT R := fun fr H => opn 29 fr (fun s0 s1 s2 s6 s7 s8 s9 s10 s11 s12 s13 s14 s15 s16 s17 s19 s27 s47 s65 s71 s78 s109 s115 s136 s140 s141 s142 s143 s147 => 
(k [s0, s1, s2, s6, s7, (.int .i64 0), s9, s10, s11, s12, s13, s14, s15, s16, s17, s19, s27, s47, s65, s71, s78, s109, s115, s136, s140, s141, s142, s143, s147] H : R))
noncomputable def r10_1 (k : KT R) : KT R := fun fr H => opn 29 fr (fun s0 s1 s2 s6 s7 s8 s9 s10 s11 s12 s13 s14 s15 s16 s17 s19 s27 s47 s65 s71 s78 s109 s115 s136 s140 s141 s142 s143 s147 => 
(k [s0, s1, s2, s6, (.sl [] .nil), s8, s9, s10, s11, s12, s13, s14, s15, s16, s17, s19, s27, s47, s65, s71, s78, s109, s115, s136, s140, s141, s142, s143, s147] H : R))
noncomputable def r10_0 (k : KT R) : KT R := fun fr H => opn 29 fr (fun s0 s1 s2 s6 s7 s8 s9 s10 s11 s12 s13 s14 s15 s16 s17 s19 s27 s47 s65 s71 s78 s109 s115 s136 s140 s141 s142 s143 s147 => 
(k [s0, s1, s2, (.bool false), s7, s8, s9, s10, s11, s12, s13, s14, s15, s16, s17, s19, s27, s47, s65, s71, s78, s109, s115, s136, s140, s141, s142, s143, s147] H : R))
noncomputable def c10 (C : CallF) (l0 : List AV) (H : AH) (k : AV → AH → R) : R := opn 3 l0 (fun x0 x1 x2 => (qFn (fun kr => (r10_0 (r10_1 (r10_2 (qBl (fun k22 => (qLoop (l10_25 C k22))) (r10_6 C (r10_7 (qCd (sel 17) (fun _ => (r10_8 C kr)) (fun k21 => k21) (r10_9 (r10_10 (r10_11 (qBl (fun k16 => (qLoop (l10_20 k16))) (r10_16 (qBl (fun k11 => (qLoop (l10_15 C k11 kr))) (r10_22 C (r10_23 (qBl (fun k6 => (qLoop (l10_10 k6 kr))) (r10_28 C (r10_29 C (qBl (fun k1 => (qLoop (l10_5 k1 kr))) (r10_35 C kr)))))))))))))))))))))
(fun fr H => k (sel 3 fr) H) [x0, x1, x2, Aes.undef, Aes.undef, Aes.undef, Aes.undef, Aes.undef, Aes.undef, Aes.undef, Aes.undef, Aes.undef, Aes.undef, Aes.undef, Aes.undef, Aes.undef, Aes.undef, Aes.undef, Aes.undef, Aes.undef, Aes.undef, Aes.undef, Aes.undef, Aes.undef, Aes.undef, Aes.undef, Aes.undef, Aes.undef, Aes.undef] H : R))
/- refectory/refectorylaw19.FillFalls -/
noncomputable def r11_30 (C : CallF) (k : KT R) : KT R := fun fr H => opn 23 fr (fun s0 s1 s2 s6 s7 s8 s9 s10 s11 s12 s13 s14 s15 s16 s17 s30 s41 s44 s61 s82 s89 s121 s124 => 
(qFa 0 s14 fun v136 =>
qLd v136 H fun v137 =>
qEql X 3 v137 (.int .i64 8) fun v138 =>
qG v138 true (fun k => qFa 2 s14 fun v => k v H) H fun v140 H =>
qG v138 true (fun k => qLd v140 H fun v => k v H) H fun v141 H =>
qG v138 true (fun k => qLenL v141 fun v => k v H) H fun v142 H =>
qG v138 true (fun k => qEql X 3 v142 (.int .i64 2) fun v => k v H) H fun v143 H =>
qPick v138 v143 (.bool false) fun v144 =>
qG v144 true (fun k => k s17 H) H fun v146 H =>
qPick v144 v146 (.bool false) fun v147 =>
qG v147 true (fun k => qFa 1 s16 fun v => k v H) H fun v149 H =>
qG v147 true (fun k => qLd v149 H fun v => k v H) H fun v150 H =>
qG v147 true (fun k => qEql X 9 v150 (.str [49]) fun v => k v H) H fun v151 H =>
qPick v147 v151 (.bool false) fun v152 =>
qG v152 true (fun k => qRes (C 33 [] H) k) H fun v154 H =>
qPick v152 v154 (.bool false) fun v155 =>
k [s0, s1, s2, v155, s7, s8, s9, s10, s11, s12, s13, s14, s15, s16, s17, s30, s41, s44, s61, s82, s89, s121, s124] H : R))
noncomputable def r11_29 (C : CallF) (k : KT R) : KT R := fun fr H => opn 23 fr (fun s0 s1 s2 s6 s7 s8 s9 s10 s11 s12 s13 s14 s15 s16 s17 s30 s41 s44 s61 s82 s89 s121 s124 => 
(qLdA 4 s14 H fun v132 =>
qRes (C 34 [v132, (.str [121])] H) fun v133 H =>
qExt v133 0 fun v134 =>
qExt v133 1 fun v135 =>
qNew (.cells z58) .ptr H fun v16 H =>
qSt 4 v16 v134 H fun _ H =>
k [s0, s1, s2, s6, s7, s8, s9, s10, s11, s12, s13, s14, s15, v16, v135, s30, s41, s44, s61, s82, s89, s121, s124] H : R))
noncomputable def r11_28 (C : CallF) (k : KT R) : KT R := fun fr H => opn 23 fr (fun s0 s1 s2 s6 s7 s8 s9 s10 s11 s12 s13 s14 s15 s16 s17 s30 s41 s44 s61 s82 s89 s121 s124 => 
(qFa 0 s14 fun v125 =>
qLd v125 H fun v126 =>
qEql X 3 v126 (.int .i64 1) fun v127 =>
qG v127 true (fun k => qRes (C 33 [] H) k) H fun v129 H =>
qPick v127 v129 (.bool false) fun v130 =>
k [s0, s1, s2, v130, s7, s8, s9, s10, s11, s12, s13, s14, s15, s16, s17, s30, s41, s44, s61, s82, s89, s121, s124] H : R))
noncomputable def r11_27 (k : KT R) : KT R := fun fr H => opn 23 fr (fun s0 s1 s2 s6 s7 s8 s9 s10 s11 s12 s13 s14 s15 s16 s17 s30 s41 s44 s61 s82 s89 s121 s124 => 
(qEql X 3 s10 s7 fun v124 =>
k [s0, s1, s2, s6, s7, s8, s9, s10, s11, s12, s13, s14, s15, s16, s17, s30, s41, s44, s61, s82, s89, s121, v124] H : R))
noncomputable def r11_26 (k : KT R) : KT R := fun fr H => opn 23 fr (fun s0 s1 s2 s6 s7 s8 s9 s10 s11 s12 s13 s14 s15 s16 s17 s30 s41 s44 s61 s82 s89 s121 s124 => 
(k [s0, s1, s2, (.bool false), s7, s8, s9, s10, s11, s12, s13, s14, s15, s16, s17, s30, s41, s44, s61, s82, s89, s121, s124] H : R))
noncomputable def r11_25 (k : KT R) : KT R := fun fr H => opn 23 fr (fun s0 s1 s2 s6 s7 s8 s9 s10 s11 s12 s13 s14 s15 s16 s17 s30 s41 s44 s61 s82 s89 s121 s124 => 
(qLenL s15 fun v104 =>
qNeq X 3 v104 (.int .i64 1) fun v105 =>
qG v105 false (fun k => k s15 H) H fun v107 H =>
qG v105 false (fun k => qIa 2 v107 (.int .i64 0) fun v => k v H) H fun v108 H =>
qG v105 false (fun k => qFa 0 v108 fun v => k v H) H fun v109 H =>
qG v105 false (fun k => qLd v109 H fun v => k v H) H fun v110 H =>
qG v105 false (fun k => qNeq X 9 v110 (.str [69,82,82,79,82]) fun v => k v H) H fun v111 H =>
qPick v105 (.bool true) v111 fun v112 =>
qG v112 false (fun k => k s15 H) H fun v114 H =>
qG v112 false (fun k => qIa 2 v114 (.int .i64 0) fun v => k v H) H fun v115 H =>
qG v112 false (fun k => qFa 1 v115 fun v => k v H) H fun v116 H =>
qG v112 false (fun k => qLd v116 H fun v => k v H) H fun v117 H =>
qG v112 false (fun k => qLenL v117 fun v => k v H) H fun v118 H =>
qG v112 false (fun k => k s7 H) H fun v119 H =>
qG v112 false (fun k => qNeq X 3 v118 v119 fun v => k v H) H fun v120 H =>
qPick v112 (.bool true) v120 fun v121 =>
k [s0, s1, s2, s6, s7, s8, s9, s10, s11, s12, s13, s14, s15, s16, s17, s30, s41, s44, s61, s82, s89, v121, s124] H : R))
noncomputable def r11_24 (C : CallF) (k : KT R) : KT R := fun fr H => opn 23 fr (fun s0 s1 s2 s6 s7 s8 s9 s10 s11 s12 s13 s14 s15 s16 s17 s30 s41 s44 s61 s82 s89 s121 s124 => 
(qLdA 10 s8 H fun v95 =>
qBld z58 [(0, 1, (.int .i64 3)), (1, 1, (.str [49]))] fun v96 =>
qBld z54 [(0, 1, (.str [73,110,116])), (1, 1, (.str [33]))] fun v97 =>
qBld z61 [(0, 1, (.int .i64 1)), (1, 1, (.str [121])), (4, 4, v96), (2, 2, v97)] fun v98 =>
qRows z61 2 [(0, v95), (1, v98)] fun v99 =>
qRes (C 32 [v99] H) fun v100 H =>
qExt v100 0 fun v101 =>
qExt v100 1 fun v102 =>
qNew (.cells z58) .ptr H fun v14 H =>
qSt 4 v14 v101 H fun _ H =>
k [s0, s1, s2, s6, s7, s8, s9, s10, s11, s12, s13, v14, v102, s16, s17, s30, s41, s44, s61, s82, s89, s121, s124] H : R))
noncomputable def r11_23 (k : KT R) : KT R := fun fr H => opn 23 fr (fun s0 s1 s2 s6 s7 s8 s9 s10 s11 s12 s13 s14 s15 s16 s17 s30 s41 s44 s61 s82 s89 s121 s124 => 
(qFa 1 s8 fun v93 =>
qSt 1 v93 (.str [120]) H fun _ H =>
k [s0, s1, s2, s6, s7, s8, s9, s10, s11, s12, s13, s14, s15, s16, s17, s30, s41, s44, s61, s82, s89, s121, s124] H : R))
noncomputable def r11_11 (k : KT R) : KT R := fun fr H => opn 23 fr (fun s0 s1 s2 s6 s7 s8 s9 s10 s11 s12 s13 s14 s15 s16 s17 s30 s41 s44 s61 s82 s89 s121 s124 => 
(qAdd X 3 s11 (.int .i64 1) fun v46 =>
k [s0, s1, s2, s6, s7, s8, s9, s10, v46, s12, s13, s14, s15, s16, s17, s30, s41, s44, s61, s82, s89, s121, s124] H : R))
noncomputable def r11_22 (k : KT R) : KT R := fun fr H => opn 23 fr (fun s0 s1 s2 s6 s7 s8 s9 s10 s11 s12 s13 s14 s15 s16 s17 s30 s41 s44 s61 s82 s89 s121 s124 => 
(qLdA 10 s13 H fun v92 =>
qSt 10 s8 v92 H fun _ H =>
k [s0, s1, s2, s6, s7, s8, s9, s10, s11, s12, s13, s14, s15, s16, s17, s30, s41, s44, s61, s82, s89, s121, s124] H : R))
noncomputable def r11_20 (k : KT R) : KT R := fun fr H => opn 23 fr (fun s0 s1 s2 s6 s7 s8 s9 s10 s11 s12 s13 s14 s15 s16 s17 s30 s41 s44 s61 s82 s89 s121 s124 => 
(qAdd X 3 s10 (.int .i64 1) fun v91 =>
k [s0, s1, s2, s6, s7, s8, s9, v91, s11, s12, s13, s14, s15, s16, s17, s30, s41, s44, s61, s82, s89, s121, s124] H : R))
noncomputable def r11_19 (k : KT R) : KT R := fun fr H => opn 23 fr (fun s0 s1 s2 s6 s7 s8 s9 s10 s11 s12 s13 s14 s15 s16 s17 s30 s41 s44 s61 s82 s89 s121 s124 => 
(k [s0, s1, s2, s6, s7, s8, s9, s10, s11, s12, s13, s14, s15, s16, s17, s30, s41, s44, s61, s82, s9, s121, s124] H : R))
noncomputable def r11_18 (k : KT R) : KT R := fun fr H => opn 23 fr (fun s0 s1 s2 s6 s7 s8 s9 s10 s11 s12 s13 s14 s15 s16 s17 s30 s41 s44 s61 s82 s89 s121 s124 => 
(qFa 2 s13 fun v83 =>
qFa 1 v83 fun v84 =>
qLd v84 H fun v85 =>
qAdd X 9 v85 (.str [33]) fun v86 =>
qFa 2 s13 fun v87 =>
qFa 1 v87 fun v88 =>
qSt 1 v88 v86 H fun _ H =>
k [s0, s1, s2, s6, s7, s8, s9, s10, s11, s12, s13, s14, s15, s16, s17, s30, s41, s44, s61, s82, s89, s121, s124] H : R))
noncomputable def r11_21 (k : KT R) : KT R := fun fr H => opn 23 fr (fun s0 s1 s2 s6 s7 s8 s9 s10 s11 s12 s13 s14 s15 s16 s17 s30 s41 s44 s61 s82 s89 s121 s124 => 
(k [s0, s1, s2, s6, s7, s8, (.bool false), s10, s11, s12, s13, s14, s15, s16, s17, s30, s41, s44, s61, s82, s89, s121, s124] H : R))
noncomputable def r11_17 (k : KT R) : KT R := fun fr H => opn 23 fr (fun s0 s1 s2 s6 s7 s8 s9 s10 s11 s12 s13 s14 s15 s16 s17 s30 s41 s44 s61 s82 s89 s121 s124 => 
(qLenL s1 fun v75 =>
qLss X 3 s11 v75 fun v76 =>
qG v76 true (fun k => k s1 H) H fun v78 H =>
qG v76 true (fun k => k s11 H) H fun v79 H =>
qG v76 true (fun k => qIa 1 v78 v79 fun v => k v H) H fun v80 H =>
qG v76 true (fun k => qLd v80 H fun v => k v H) H fun v81 H =>
qPick v76 v81 (.bool false) fun v82 =>
k [s0, s1, s2, s6, s7, s8, s9, s10, s11, s12, s13, s14, s15, s16, s17, s30, s41, s44, s61, v82, s89, s121, s124] H : R))
noncomputable def r11_16 (k : KT R) : KT R := fun fr H => opn 23 fr (fun s0 s1 s2 s6 s7 s8 s9 s10 s11 s12 s13 s14 s15 s16 s17 s30 s41 s44 s61 s82 s89 s121 s124 => 
(qFa 2 s8 fun v63 =>
qFa 1 v63 fun v64 =>
qLd v64 H fun v65 =>
qAdd X 9 v65 (.str [93]) fun v66 =>
qLdA 10 s8 H fun v67 =>
qRows z61 1 [(0, v67)] fun v68 =>
qFa 0 s13 fun v69 =>
qSt 1 v69 (.int .i64 4) H fun _ H =>
qLdA 10 s8 H fun w => qSame v67 w (qLd v64 H fun w => qSame v65 w (qFa 2 s13 fun v70 =>
qFa 1 v70 fun v71 =>
qSt 1 v71 v66 H fun _ H =>
qLdA 10 s8 H fun w => qSame v67 w (qFa 9 s13 fun v72 =>
qSt 1 v72 v68 H fun _ H =>
k [s0, s1, s2, s6, s7, s8, s9, s10, s11, s12, s13, s14, s15, s16, s17, s30, s41, s44, s61, s82, s89, s121, s124] H))) : R))
noncomputable def r11_15 (k : KT R) : KT R := fun fr H => opn 23 fr (fun s0 s1 s2 s6 s7 s8 s9 s10 s11 s12 s13 s14 s15 s16 s17 s30 s41 s44 s61 s82 s89 s121 s124 => 
(qFa 1 s8 fun v62 =>
qSt 1 v62 (.str []) H fun _ H =>
k [s0, s1, s2, s6, s7, s8, s9, s10, s11, s12, s13, s14, s15, s16, s17, s30, s41, s44, s61, s82, s89, s121, s124] H : R))
noncomputable def r11_14 (k : KT R) : KT R := fun fr H => opn 23 fr (fun s0 s1 s2 s6 s7 s8 s9 s10 s11 s12 s13 s14 s15 s16 s17 s30 s41 s44 s61 s82 s89 s121 s124 => 
(k [s0, s1, s2, s6, s7, s8, s9, s10, s11, s12, s13, s14, s15, s16, s17, s30, s41, s44, s12, s82, s89, s121, s124] H : R))
noncomputable def r11_13 (k : KT R) : KT R := fun fr H => opn 23 fr (fun s0 s1 s2 s6 s7 s8 s9 s10 s11 s12 s13 s14 s15 s16 s17 s30 s41 s44 s61 s82 s89 s121 s124 => 
(qBld z54 [(0, 1, (.str [84]))] fun v57 =>
qLdA 10 s8 H fun v58 =>
qRows z61 1 [(0, v58)] fun v59 =>
qBld z61 [(0, 1, (.int .i64 5)), (1, 1, (.str [120])), (2, 2, v57), (9, 1, v59)] fun v60 =>
qNew (.cells z61) .ptr H fun v13 H =>
qSt 10 v13 v60 H fun _ H =>
k [s0, s1, s2, s6, s7, s8, s9, s10, s11, s12, v13, s14, s15, s16, s17, s30, s41, s44, s61, s82, s89, s121, s124] H : R))
noncomputable def r11_12 (k : KT R) : KT R := fun fr H => opn 23 fr (fun s0 s1 s2 s6 s7 s8 s9 s10 s11 s12 s13 s14 s15 s16 s17 s30 s41 s44 s61 s82 s89 s121 s124 => 
(qLenL s2 fun v49 =>
qLss X 3 s11 v49 fun v50 =>
qG v50 true (fun k => k s2 H) H fun v52 H =>
qG v50 true (fun k => k s11 H) H fun v53 H =>
qG v50 true (fun k => qIa 1 v52 v53 fun v => k v H) H fun v54 H =>
qG v50 true (fun k => qLd v54 H fun v => k v H) H fun v55 H =>
qPick v50 v55 (.bool false) fun v56 =>
k [s0, s1, s2, s6, s7, s8, s9, s10, s11, v56, s13, s14, s15, s16, s17, s30, s41, s44, s61, s82, s89, s121, s124] H : R))
noncomputable def r11_10 (k : KT R) : KT R := fun fr H => opn 23 fr (fun s0 s1 s2 s6 s7 s8 s9 s10 s11 s12 s13 s14 s15 s16 s17 s30 s41 s44 s61 s82 s89 s121 s124 => 
(qLss X 3 s11 s7 fun v44 =>
k [s0, s1, s2, s6, s7, s8, s9, s10, s11, s12, s13, s14, s15, s16, s17, s30, s41, v44, s61, s82, s89, s121, s124] H : R))
noncomputable def l11_9 (k3 : KT R) : KT R → KT R := fun k4 => (r11_10 (qCd (sel 17) (fun k9 => k9) (fun _ => k3) (qBl (fun k5 => (r11_12 (r11_13 (r11_14 (qCd (sel 18) (fun k8 => (r11_15 (r11_16 k8))) (fun k8 => k8) (r11_17 (qCd (sel 19) (fun k6 => (r11_18 (r11_19 (qCd (sel 20) (fun k7 => (r11_20 k7)) (fun k7 => k7) k6)))) (fun k6 => (r11_21 k6)) (r11_22 k5)))))))) (r11_11 k4))))
noncomputable def r11_9 (k : KT R) : KT R := fun fr H => opn 23 fr (fun s0 s1 s2 s6 s7 s8 s9 s10 s11 s12 s13 s14 s15 s16 s17 s30 s41 s44 s61 s82 s89 s121 s124 => 
(k [s0, s1, s2, s6, s7, s8, s9, s10, (.int .i64 1), s12, s13, s14, s15, s16, s17, s30, s41, s44, s61, s82, s89, s121, s124] H : R))
noncomputable def r11_8 (k : KT R) : KT R := fun fr H => opn 23 fr (fun s0 s1 s2 s6 s7 s8 s9 s10 s11 s12 s13 s14 s15 s16 s17 s30 s41 s44 s61 s82 s89 s121 s124 => 
(k [s0, s1, s2, s6, s7, s8, s9, (.int .i64 1), s11, s12, s13, s14, s15, s16, s17, s30, s41, s44, s61, s82, s89, s121, s124] H : R))
noncomputable def r11_7 (k : KT R) : KT R := fun fr H => opn 23 fr (fun s0 s1 s2 s6 s7 s8 s9 s10 s11 s12 s13 s14 s15 s16 s17 s30 s41 s44 s61 s82 s89 s121 s124 => 
(k [s0, s1, s2, s6, s7, s8, s9, s10, s11, s12, s13, s14, s15, s16, s17, s30, s9, s44, s61, s82, s89, s121, s124] H : R))
noncomputable def r11_6 (k : KT R) : KT R := fun fr H => opn 23 fr (fun s0 s1 s2 s6 s7 s8 s9 s10 s11 s12 s13 s14 s15 s16 s17 s30 s41 s44 s61 s82 s89 s121 s124 => 
(k [s0, s1, s2, s6, s7, s8, s9, (.int .i64 0), s11, s12, s13, s14, s15, s16, s17, s30, s41, s44, s61, s82, s89, s121, s124] H : R))
noncomputable def r11_5 (k : KT R) : KT R := fun fr H => opn 23 fr (fun s0 s1 s2 s6 s7 s8 s9 s10 s11 s12 s13 s14 s15 s16 s17 s30 s41 s44 s61 s82 s89 s121 s124 => 
(qLenL s1 fun v34 =>
qGtr X 3 v34 (.int .i64 0) fun v35 =>
qG v35 true (fun k => k s1 H) H fun v37 H =>
qG v35 true (fun k => qIa 1 v37 (.int .i64 0) fun v => k v H) H fun v38 H =>
qG v35 true (fun k => qLd v38 H fun v => k v H) H fun v39 H =>
qPick v35 v39 (.bool false) fun v40 =>
k [s0, s1, s2, s6, s7, s8, v40, s10, s11, s12, s13, s14, s15, s16, s17, s30, s41, s44, s61, s82, s89, s121, s124] H : R))
noncomputable def r11_4 (k : KT R) : KT R := fun fr H => opn 23 fr (fun s0 s1 s2 s6 s7 s8 s9 s10 s11 s12 s13 s14 s15 s16 s17 s30 s41 s44 s61 s82 s89 s121 s124 => 
(qFa 2 s8 fun v31 =>
qFa 1 v31 fun v32 =>
qSt 1 v32 (.str [33]) H fun _ H =>
k [s0, s1, s2, s6, s7, s8, s9, s10, s11, s12, s13, s14, s15, s16, s17, s30, s41, s44, s61, s82, s89, s121, s124] H : R))
noncomputable def r11_3 (k : KT R) : KT R := fun fr H => opn 23 fr (fun s0 s1 s2 s6 s7 s8 s9 s10 s11 s12 s13 s14 s15 s16 s17 s30 s41 s44 s61 s82 s89 s121 s124 => 
(qLenL s1 fun v24 =>
qGtr X 3 v24 (.int .i64 0) fun v25 =>
qG v25 true (fun k => k s1 H) H fun v27 H =>
qG v25 true (fun k => qIa 1 v27 (.int .i64 0) fun v => k v H) H fun v28 H =>
qG v25 true (fun k => qLd v28 H fun v => k v H) H fun v29 H =>
qPick v25 v29 (.bool false) fun v30 =>
k [s0, s1, s2, s6, s7, s8, s9, s10, s11, s12, s13, s14, s15, s16, s17, v30, s41, s44, s61, s82, s89, s121, s124] H : R))
noncomputable def r11_2 (k : KT R) : KT R := fun fr H => opn 23 fr (fun s0 s1 s2 s6 s7 s8 s9 s10 s11 s12 s13 s14 s15 s16 s17 s30 s41 s44 s61 s82 s89 s121 s124 => 
(qBld z54 [(0, 1, (.str [84]))] fun v21 =>
qBld z61 [(0, 1, (.int .i64 3)), (8, 1, (.str [69,82,82,79,82])), (1, 1, (.str [120])), (2, 2, v21)] fun v22 =>
qNew (.cells z61) .ptr H fun v8 H =>
qSt 10 v8 v22 H fun _ H =>
k [s0, s1, s2, s6, s7, v8, s9, s10, s11, s12, s13, s14, s15, s16, s17, s30, s41, s44, s61, s82, s89, s121, s124] H : R))
noncomputable def r11_1 (C : CallF) (k : KT R) : KT R := fun fr H => opn 23 fr (fun s0 s1 s2 s6 s7 s8 s9 s10 s11 s12 s13 s14 s15 s16 s17 s30 s41 s44 s61 s82 s89 s121 s124 => 
(qRes (C 23 [s0, (.int .i64 8)] H) fun v19 H =>
qAdd X 3 (.int .i64 1) v19 fun v20 =>
k [s0, s1, s2, s6, v20, s8, s9, s10, s11, s12, s13, s14, s15, s16, s17, s30, s41, s44, s61, s82, s89, s121, s124] H : R))
noncomputable def r11_0 (k : KT R) : KT R := fun fr H => opn 23 fr (fun s0 s1 s2 s6 s7 s8 s9 s10 s11 s12 s13 s14 s15 s16 s17 s30 s41 s44 s61 s82 s89 s121 s124 => 
(k [s0, s1, s2, (.bool false), s7, s8, s9, s10, s11, s12, s13, s14, s15, s16, s17, s30, s41, s44, s61, s82, s89, s121, s124] H : R))
noncomputable def c11 (C : CallF) (l0 : List AV) (H : AH) (k : AV → AH → R) : R := opn 3 l0 (fun x0 x1 x2 => (qFn (fun kr => (r11_0 (r11_1 C (r11_2 (r11_3 (qCd (sel 15) (fun k11 => (r11_4 k11)) (fun k11 => k11) (r11_5 (r11_6 (r11_7 (qCd (sel 16) (fun k10 => (r11_8 k10)) (fun k10 => k10) (r11_9 (qBl (fun k3 => (qLoop (l11_9 k3))) (r11_23 (r11_24 C (r11_25 (qCd (sel 21) (fun _ => (r11_26 kr)) (fun k2 => k2) (r11_27 (qCd (sel 22) (fun _ => (r11_28 C kr)) (fun k1 => k1) (r11_29 C (r11_30 C kr))))))))))))))))))))
(fun fr H => k (sel 3 fr) H) [x0, x1, x2, Aes.undef, Aes.undef, Aes.undef, Aes.undef, Aes.undef, Aes.undef, Aes.undef, Aes.undef, Aes.undef, Aes.undef, Aes.undef, Aes.undef, Aes.undef, Aes.undef, Aes.undef, Aes.undef, Aes.undef, Aes.undef, Aes.undef, Aes.undef] H : R))
/- refectory/refectorylaw19.FillPaths -/
noncomputable def r12_30 (C : CallF) (k : KT R) : KT R := fun fr H => opn 23 fr (fun s0 s1 s2 s6 s7 s8 s9 s10 s11 s12 s13 s14 s15 s16 s17 s25 s33 s37 s49 s62 s70 s77 s139 => 
(qFa 0 s12 fun v151 =>
qLd v151 H fun v152 =>
qEql X 3 v152 (.int .i64 1) fun v153 =>
qEql X 4 v153 s17 fun v155 =>
qG v155 true (fun k => k s17 H) H fun v157 H =>
qG v155 true (fun k => k v157 H) H fun v158 H =>
qG v158 false (fun k => qFa 0 s12 fun v => k v H) H fun v159 H =>
qG v158 false (fun k => qLd v159 H fun v => k v H) H fun v160 H =>
qG v158 false (fun k => qEql X 3 v160 (.int .i64 8) fun v => k v H) H fun v161 H =>
qG v158 false (fun k => k v161 H) H fun v162 H =>
qG v162 true (fun k => qFa 3 s12 fun v => k v H) H fun v163 H =>
qG v162 true (fun k => qLd v163 H fun v => k v H) H fun v164 H =>
qG v162 true (fun k => qLenL v164 fun v => k v H) H fun v165 H =>
qG v162 true (fun k => qEql X 3 v165 (.int .i64 1) fun v => k v H) H fun v166 H =>
qG v158 false (fun k => qPick v162 v166 (.bool false) fun v => k v H) H fun v167 H =>
qG v158 false (fun k => k v167 H) H fun v168 H =>
qG v168 true (fun k => qFa 3 s12 fun v => k v H) H fun v169 H =>
qG v168 true (fun k => qLd v169 H fun v => k v H) H fun v170 H =>
qG v168 true (fun k => qIa 4 v170 (.int .i64 0) fun v => k v H) H fun v171 H =>
qG v168 true (fun k => qFa 3 v171 fun v => k v H) H fun v172 H =>
qG v168 true (fun k => qLd v172 H fun v => k v H) H fun v173 H =>
qG v168 true (fun k => qLenL v173 fun v => k v H) H fun v174 H =>
qG v168 true (fun k => k s7 H) H fun v175 H =>
qG v168 true (fun k => qLenL v175 fun v => k v H) H fun v176 H =>
qG v168 true (fun k => qEql X 3 v174 v176 fun v => k v H) H fun v177 H =>
qG v158 false (fun k => qPick v168 v177 (.bool false) fun v => k v H) H fun v178 H =>
qG v155 true (fun k => qPick v158 (.bool true) v178 fun v => k v H) H fun v179 H =>
qPick v155 v179 (.bool false) fun v180 =>
qG v180 true (fun k => qRes (C 33 [] H) k) H fun v182 H =>
qPick v180 v182 (.bool false) fun v183 =>
k [s0, s1, s2, v183, s7, s8, s9, s10, s11, s12, s13, s14, s15, s16, s17, s25, s33, s37, s49, s62, s70, s77, s139] H : R))
noncomputable def r12_29 (k : KT R) : KT R := fun fr H => opn 23 fr (fun s0 s1 s2 s6 s7 s8 s9 s10 s11 s12 s13 s14 s15 s16 s17 s25 s33 s37 s49 s62 s70 s77 s139 => 
(qG s1 true (fun k => k s2 H) H fun v144 H =>
qG s1 true (fun k => qNot v144 fun v => k v H) H fun v145 H =>
qPick s1 v145 (.bool false) fun v146 =>
qG v146 true (fun k => k s8 H) H fun v148 H =>
qG v146 true (fun k => qGtr X 3 v148 (.int .i64 0) fun v => k v H) H fun v149 H =>
qPick v146 v149 (.bool false) fun v150 =>
k [s0, s1, s2, s6, s7, s8, s9, s10, s11, s12, s13, s14, s15, s16, v150, s25, s33, s37, s49, s62, s70, s77, s139] H : R))
noncomputable def r12_23 (k : KT R) : KT R := fun fr H => opn 23 fr (fun s0 s1 s2 s6 s7 s8 s9 s10 s11 s12 s13 s14 s15 s16 s17 s25 s33 s37 s49 s62 s70 s77 s139 => 
(qAdd X 3 s15 (.int .i64 1) fun v72 =>
k [s0, s1, s2, s6, s7, s8, s9, s10, s11, s12, s13, s14, v72, s16, s17, s25, s33, s37, s49, s62, s70, s77, s139] H : R))
noncomputable def r12_28 (k : KT R) : KT R := fun fr H => opn 23 fr (fun s0 s1 s2 s6 s7 s8 s9 s10 s11 s12 s13 s14 s15 s16 s17 s25 s33 s37 s49 s62 s70 s77 s139 => 
(qAdd X 3 s14 (.int .i64 1) fun v141 =>
k [s0, s1, s2, s6, s7, s8, s9, s10, s11, s12, s13, v141, s15, s16, s17, s25, s33, s37, s49, s62, s70, s77, s139] H : R))
noncomputable def r12_27 (k : KT R) : KT R := fun fr H => opn 23 fr (fun s0 s1 s2 s6 s7 s8 s9 s10 s11 s12 s13 s14 s15 s16 s17 s25 s33 s37 s49 s62 s70 s77 s139 => 
(k [s0, s1, s2, (.bool false), s7, s8, s9, s10, s11, s12, s13, s14, s15, s16, s17, s25, s33, s37, s49, s62, s70, s77, s139] H : R))
noncomputable def r12_26 (k : KT R) : KT R := fun fr H => opn 23 fr (fun s0 s1 s2 s6 s7 s8 s9 s10 s11 s12 s13 s14 s15 s16 s17 s25 s33 s37 s49 s62 s70 s77 s139 => 
(qLenL s16 fun v84 =>
qLss X 3 v84 (.int .i64 2) fun v85 =>
qG v85 false (fun k => k s16 H) H fun v87 H =>
qG v85 false (fun k => qIa 2 v87 (.int .i64 0) fun v => k v H) H fun v88 H =>
qG v85 false (fun k => qFa 0 v88 fun v => k v H) H fun v89 H =>
qG v85 false (fun k => qLd v89 H fun v => k v H) H fun v90 H =>
qG v85 false (fun k => qNeq X 9 v90 (.str [120]) fun v => k v H) H fun v91 H =>
qPick v85 (.bool true) v91 fun v92 =>
qG v92 false (fun k => k s16 H) H fun v94 H =>
qG v92 false (fun k => qIa 2 v94 (.int .i64 1) fun v => k v H) H fun v95 H =>
qG v92 false (fun k => qFa 0 v95 fun v => k v H) H fun v96 H =>
qG v92 false (fun k => qLd v96 H fun v => k v H) H fun v97 H =>
qG v92 false (fun k => qNeq X 9 v97 (.str []) fun v => k v H) H fun v98 H =>
qPick v92 (.bool true) v98 fun v99 =>
qG v99 false (fun k => k s16 H) H fun v101 H =>
qG v99 false (fun k => qIa 2 v101 (.int .i64 1) fun v => k v H) H fun v102 H =>
qG v99 false (fun k => qFa 1 v102 fun v => k v H) H fun v103 H =>
qG v99 false (fun k => qLd v103 H fun v => k v H) H fun v104 H =>
qG v99 false (fun k => k s15 H) H fun v105 H =>
qG v99 false (fun k => qNeq X 3 v104 v105 fun v => k v H) H fun v106 H =>
qPick v99 (.bool true) v106 fun v107 =>
qG v107 false (fun k => k s2 H) H fun v109 H =>
qG v107 false (fun k => k v109 H) H fun v110 H =>
qG v110 true (fun k => k s16 H) H fun v111 H =>
qG v110 true (fun k => qLenL v111 fun v => k v H) H fun v112 H =>
qG v110 true (fun k => qNeq X 3 v112 (.int .i64 3) fun v => k v H) H fun v113 H =>
qG v110 true (fun k => k v113 H) H fun v114 H =>
qG v114 false (fun k => k s16 H) H fun v115 H =>
qG v114 false (fun k => qIa 2 v115 (.int .i64 2) fun v => k v H) H fun v116 H =>
qG v114 false (fun k => qFa 0 v116 fun v => k v H) H fun v117 H =>
qG v114 false (fun k => qLd v117 H fun v => k v H) H fun v118 H =>
qG v114 false (fun k => qNeq X 9 v118 (.str [121]) fun v => k v H) H fun v119 H =>
qG v110 true (fun k => qPick v114 (.bool true) v119 fun v => k v H) H fun v120 H =>
qG v107 false (fun k => qPick v110 v120 (.bool false) fun v => k v H) H fun v121 H =>
qPick v107 (.bool true) v121 fun v122 =>
qG v122 false (fun k => k s2 H) H fun v124 H =>
qG v122 false (fun k => qNot v124 fun v => k v H) H fun v125 H =>
qG v122 false (fun k => k v125 H) H fun v126 H =>
qG v126 true (fun k => k s16 H) H fun v127 H =>
qG v126 true (fun k => qLenL v127 fun v => k v H) H fun v128 H =>
qG v126 true (fun k => qNeq X 3 v128 (.int .i64 2) fun v => k v H) H fun v129 H =>
qG v122 false (fun k => qPick v126 v129 (.bool false) fun v => k v H) H fun v130 H =>
qPick v122 (.bool true) v130 fun v131 =>
qG v131 false (fun k => k s13 H) H fun v133 H =>
qG v131 false (fun k => k s14 H) H fun v134 H =>
qG v131 false (fun k => qIa 2 v133 v134 fun v => k v H) H fun v135 H =>
qG v131 false (fun k => qFa 0 v135 fun v => k v H) H fun v136 H =>
qG v131 false (fun k => qLd v136 H fun v => k v H) H fun v137 H =>
qG v131 false (fun k => qNeq X 9 v137 (.str [84,89,80,69]) fun v => k v H) H fun v138 H =>
qPick v131 (.bool true) v138 fun v139 =>
k [s0, s1, s2, s6, s7, s8, s9, s10, s11, s12, s13, s14, s15, s16, s17, s25, s33, s37, s49, s62, s70, s77, v139] H : R))
noncomputable def r12_25 (k : KT R) : KT R := fun fr H => opn 23 fr (fun s0 s1 s2 s6 s7 s8 s9 s10 s11 s12 s13 s14 s15 s16 s17 s25 s33 s37 s49 s62 s70 s77 s139 => 
(qIa 2 s13 s14 fun v80 =>
qFa 1 v80 fun v81 =>
qLd v81 H fun v82 =>
k [s0, s1, s2, s6, s7, s8, s9, s10, s11, s12, s13, s14, s15, v82, s17, s25, s33, s37, s49, s62, s70, s77, s139] H : R))
noncomputable def r12_24 (k : KT R) : KT R := fun fr H => opn 23 fr (fun s0 s1 s2 s6 s7 s8 s9 s10 s11 s12 s13 s14 s15 s16 s17 s25 s33 s37 s49 s62 s70 s77 s139 => 
(qIa 1 s0 s15 fun v75 =>
qLd v75 H fun v76 =>
qNot v76 fun v77 =>
k [s0, s1, s2, s6, s7, s8, s9, s10, s11, s12, s13, s14, s15, s16, s17, s25, s33, s37, s49, s62, s70, v77, s139] H : R))
noncomputable def r12_22 (k : KT R) : KT R := fun fr H => opn 23 fr (fun s0 s1 s2 s6 s7 s8 s9 s10 s11 s12 s13 s14 s15 s16 s17 s25 s33 s37 s49 s62 s70 s77 s139 => 
(qLenL s0 fun v65 =>
qLss X 3 s15 v65 fun v66 =>
qG v66 true (fun k => k s15 H) H fun v68 H =>
qG v66 true (fun k => qLss X 3 v68 (.int .i64 20) fun v => k v H) H fun v69 H =>
qPick v66 v69 (.bool false) fun v70 =>
k [s0, s1, s2, s6, s7, s8, s9, s10, s11, s12, s13, s14, s15, s16, s17, s25, s33, s37, s49, s62, v70, s77, s139] H : R))
noncomputable def l12_6 (k1 : KT R) (kr : KT R) : KT R → KT R := fun k2 => (r12_22 (qCd (sel 20) (fun k6 => k6) (fun _ => k1) (qBl (fun k3 => (r12_24 (qCd (sel 21) (fun _ => k3) (fun k5 => k5) (r12_25 (r12_26 (qCd (sel 22) (fun _ => (r12_27 kr)) (fun k4 => k4) (r12_28 k3))))))) (r12_23 k2))))
noncomputable def r12_21 (k : KT R) : KT R := fun fr H => opn 23 fr (fun s0 s1 s2 s6 s7 s8 s9 s10 s11 s12 s13 s14 s15 s16 s17 s25 s33 s37 s49 s62 s70 s77 s139 => 
(k [s0, s1, s2, s6, s7, s8, s9, s10, s11, s12, s13, s14, (.int .i64 0), s16, s17, s25, s33, s37, s49, s62, s70, s77, s139] H : R))
noncomputable def r12_20 (k : KT R) : KT R := fun fr H => opn 23 fr (fun s0 s1 s2 s6 s7 s8 s9 s10 s11 s12 s13 s14 s15 s16 s17 s25 s33 s37 s49 s62 s70 s77 s139 => 
(k [s0, s1, s2, s6, s7, s8, s9, s10, s11, s12, s13, (.int .i64 0), s15, s16, s17, s25, s33, s37, s49, s62, s70, s77, s139] H : R))
noncomputable def r12_19 (k : KT R) : KT R := fun fr H => opn 23 fr (fun s0 s1 s2 s6 s7 s8 s9 s10 s11 s12 s13 s14 s15 s16 s17 s25 s33 s37 s49 s62 s70 s77 s139 => 
(k [s0, s1, s2, (.bool false), s7, s8, s9, s10, s11, s12, s13, s14, s15, s16, s17, s25, s33, s37, s49, s62, s70, s77, s139] H : R))
noncomputable def r12_18 (k : KT R) : KT R := fun fr H => opn 23 fr (fun s0 s1 s2 s6 s7 s8 s9 s10 s11 s12 s13 s14 s15 s16 s17 s25 s33 s37 s49 s62 s70 s77 s139 => 
(qLenL s13 fun v60 =>
qNeq X 3 v60 s8 fun v62 =>
k [s0, s1, s2, s6, s7, s8, s9, s10, s11, s12, s13, s14, s15, s16, s17, s25, s33, s37, s49, v62, s70, s77, s139] H : R))
noncomputable def r12_17 (C : CallF) (k : KT R) : KT R := fun fr H => opn 23 fr (fun s0 s1 s2 s6 s7 s8 s9 s10 s11 s12 s13 s14 s15 s16 s17 s25 s33 s37 s49 s62 s70 s77 s139 => 
(qLdA 2 s11 H fun v52 =>
qBld z61 [(0, 1, (.int .i64 4)), (1, 1, (.str [120])), (2, 2, v52), (9, 1, s7)] fun v54 =>
qRows z61 1 [(0, v54)] fun v55 =>
qRes (C 32 [v55] H) fun v56 H =>
qExt v56 0 fun v57 =>
qExt v56 1 fun v58 =>
qNew (.cells z58) .ptr H fun v12 H =>
qSt 4 v12 v57 H fun _ H =>
k [s0, s1, s2, s6, s7, s8, s9, s10, s11, v12, v58, s14, s15, s16, s17, s25, s33, s37, s49, s62, s70, s77, s139] H : R))
noncomputable def r12_16 (k : KT R) : KT R := fun fr H => opn 23 fr (fun s0 s1 s2 s6 s7 s8 s9 s10 s11 s12 s13 s14 s15 s16 s17 s25 s33 s37 s49 s62 s70 s77 s139 => 
(qFa 1 s11 fun v50 =>
qSt 1 v50 (.str [33,93,33]) H fun _ H =>
k [s0, s1, s2, s6, s7, s8, s9, s10, s11, s12, s13, s14, s15, s16, s17, s25, s33, s37, s49, s62, s70, s77, s139] H : R))
noncomputable def r12_15 (k : KT R) : KT R := fun fr H => opn 23 fr (fun s0 s1 s2 s6 s7 s8 s9 s10 s11 s12 s13 s14 s15 s16 s17 s25 s33 s37 s49 s62 s70 s77 s139 => 
(k [s0, s1, s2, s6, s7, s8, s9, s10, s11, s12, s13, s14, s15, s16, s17, s25, s33, s37, s1, s62, s70, s77, s139] H : R))
noncomputable def r12_14 (k : KT R) : KT R := fun fr H => opn 23 fr (fun s0 s1 s2 s6 s7 s8 s9 s10 s11 s12 s13 s14 s15 s16 s17 s25 s33 s37 s49 s62 s70 s77 s139 => 
(qBld z54 [(0, 1, (.str [84])), (1, 1, (.str [93]))] fun v48 =>
qNew (.cells z54) .ptr H fun v11 H =>
qSt 2 v11 v48 H fun _ H =>
k [s0, s1, s2, s6, s7, s8, s9, s10, v11, s12, s13, s14, s15, s16, s17, s25, s33, s37, s49, s62, s70, s77, s139] H : R))
noncomputable def r12_5 (k : KT R) : KT R := fun fr H => opn 23 fr (fun s0 s1 s2 s6 s7 s8 s9 s10 s11 s12 s13 s14 s15 s16 s17 s25 s33 s37 s49 s62 s70 s77 s139 => 
(qAdd X 3 s9 (.int .i64 1) fun v27 =>
k [s0, s1, s2, s6, s7, s8, v27, s10, s11, s12, s13, s14, s15, s16, s17, s25, s33, s37, s49, s62, s70, s77, s139] H : R))
noncomputable def r12_13 (k : KT R) : KT R := fun fr H => opn 23 fr (fun s0 s1 s2 s6 s7 s8 s9 s10 s11 s12 s13 s14 s15 s16 s17 s25 s33 s37 s49 s62 s70 s77 s139 => 
(qLdA 10 s10 H fun v45 =>
qRows z61 1 [(0, v45)] fun v46 =>
qApp 10 168 s7 v46 false H fun v47 H =>
k [s0, s1, s2, s6, v47, s8, s9, s10, s11, s12, s13, s14, s15, s16, s17, s25, s33, s37, s49, s62, s70, s77, s139] H : R))
noncomputable def r12_12 (k : KT R) : KT R := fun fr H => opn 23 fr (fun s0 s1 s2 s6 s7 s8 s9 s10 s11 s12 s13 s14 s15 s16 s17 s25 s33 s37 s49 s62 s70 s77 s139 => 
(qLdA 10 s10 H fun v41 =>
qRows z61 1 [(0, v41)] fun v42 =>
qBld z61 [(0, 1, (.int .i64 5)), (9, 1, v42)] fun v43 =>
qSt 10 s10 v43 H fun _ H =>
k [s0, s1, s2, s6, s7, s8, s9, s10, s11, s12, s13, s14, s15, s16, s17, s25, s33, s37, s49, s62, s70, s77, s139] H : R))
noncomputable def r12_11 (k : KT R) : KT R := fun fr H => opn 23 fr (fun s0 s1 s2 s6 s7 s8 s9 s10 s11 s12 s13 s14 s15 s16 s17 s25 s33 s37 s49 s62 s70 s77 s139 => 
(qBld z54 [(0, 1, (.str [73,110,116]))] fun v38 =>
qFa 1 s10 fun v39 =>
qSt 1 v39 (.str [121]) H fun _ H =>
qFa 2 s10 fun v40 =>
qSt 2 v40 v38 H fun _ H =>
k [s0, s1, s2, s6, s7, s8, s9, s10, s11, s12, s13, s14, s15, s16, s17, s25, s33, s37, s49, s62, s70, s77, s139] H : R))
noncomputable def r12_10 (k : KT R) : KT R := fun fr H => opn 23 fr (fun s0 s1 s2 s6 s7 s8 s9 s10 s11 s12 s13 s14 s15 s16 s17 s25 s33 s37 s49 s62 s70 s77 s139 => 
(k [s0, s1, s2, s6, s7, s8, s9, s10, s11, s12, s13, s14, s15, s16, s17, s25, s33, s2, s49, s62, s70, s77, s139] H : R))
noncomputable def r12_9 (k : KT R) : KT R := fun fr H => opn 23 fr (fun s0 s1 s2 s6 s7 s8 s9 s10 s11 s12 s13 s14 s15 s16 s17 s25 s33 s37 s49 s62 s70 s77 s139 => 
(qAdd X 3 s8 (.int .i64 1) fun v36 =>
k [s0, s1, s2, s6, s7, v36, s9, s10, s11, s12, s13, s14, s15, s16, s17, s25, s33, s37, s49, s62, s70, s77, s139] H : R))
noncomputable def r12_8 (k : KT R) : KT R := fun fr H => opn 23 fr (fun s0 s1 s2 s6 s7 s8 s9 s10 s11 s12 s13 s14 s15 s16 s17 s25 s33 s37 s49 s62 s70 s77 s139 => 
(qBld z61 [(0, 1, (.int .i64 3)), (8, 1, (.str [84,89,80,69]))] fun v34 =>
qSt 10 s10 v34 H fun _ H =>
k [s0, s1, s2, s6, s7, s8, s9, s10, s11, s12, s13, s14, s15, s16, s17, s25, s33, s37, s49, s62, s70, s77, s139] H : R))
noncomputable def r12_7 (k : KT R) : KT R := fun fr H => opn 23 fr (fun s0 s1 s2 s6 s7 s8 s9 s10 s11 s12 s13 s14 s15 s16 s17 s25 s33 s37 s49 s62 s70 s77 s139 => 
(qIa 1 s0 s9 fun v32 =>
qLd v32 H fun v33 =>
k [s0, s1, s2, s6, s7, s8, s9, s10, s11, s12, s13, s14, s15, s16, s17, s25, v33, s37, s49, s62, s70, s77, s139] H : R))
noncomputable def r12_6 (k : KT R) : KT R := fun fr H => opn 23 fr (fun s0 s1 s2 s6 s7 s8 s9 s10 s11 s12 s13 s14 s15 s16 s17 s25 s33 s37 s49 s62 s70 s77 s139 => 
(qBld z58 [(0, 1, (.int .i64 3)), (1, 1, (.str [49]))] fun v28 =>
qBld z61 [(0, 1, (.int .i64 1)), (4, 4, v28)] fun v29 =>
qNew (.cells z61) .ptr H fun v10 H =>
qSt 10 v10 v29 H fun _ H =>
k [s0, s1, s2, s6, s7, s8, s9, v10, s11, s12, s13, s14, s15, s16, s17, s25, s33, s37, s49, s62, s70, s77, s139] H : R))
noncomputable def r12_4 (k : KT R) : KT R := fun fr H => opn 23 fr (fun s0 s1 s2 s6 s7 s8 s9 s10 s11 s12 s13 s14 s15 s16 s17 s25 s33 s37 s49 s62 s70 s77 s139 => 
(qLenL s0 fun v20 =>
qLss X 3 s9 v20 fun v21 =>
qG v21 true (fun k => k s9 H) H fun v23 H =>
qG v21 true (fun k => qLss X 3 v23 (.int .i64 20) fun v => k v H) H fun v24 H =>
qPick v21 v24 (.bool false) fun v25 =>
k [s0, s1, s2, s6, s7, s8, s9, s10, s11, s12, s13, s14, s15, s16, s17, v25, s33, s37, s49, s62, s70, s77, s139] H : R))
noncomputable def l12_14 (k9 : KT R) : KT R → KT R := fun k10 => (r12_4 (qCd (sel 15) (fun k14 => k14) (fun _ => k9) (qBl (fun k11 => (r12_6 (r12_7 (qCd (sel 16) (fun k13 => (r12_8 (r12_9 k13))) (fun k13 => k13) (r12_10 (qCd (sel 17) (fun k12 => (r12_11 (r12_12 k12))) (fun k12 => k12) (r12_13 k11))))))) (r12_5 k10))))
noncomputable def r12_3 (k : KT R) : KT R := fun fr H => opn 23 fr (fun s0 s1 s2 s6 s7 s8 s9 s10 s11 s12 s13 s14 s15 s16 s17 s25 s33 s37 s49 s62 s70 s77 s139 => 
(k [s0, s1, s2, s6, s7, s8, (.int .i64 0), s10, s11, s12, s13, s14, s15, s16, s17, s25, s33, s37, s49, s62, s70, s77, s139] H : R))
noncomputable def r12_2 (k : KT R) : KT R := fun fr H => opn 23 fr (fun s0 s1 s2 s6 s7 s8 s9 s10 s11 s12 s13 s14 s15 s16 s17 s25 s33 s37 s49 s62 s70 s77 s139 => 
(k [s0, s1, s2, s6, s7, (.int .i64 0), s9, s10, s11, s12, s13, s14, s15, s16, s17, s25, s33, s37, s49, s62, s70, s77, s139] H : R))
noncomputable def r12_1 (k : KT R) : KT R := fun fr H => opn 23 fr (fun s0 s1 s2 s6 s7 s8 s9 s10 s11 s12 s13 s14 s15 s16 s17 s25 s33 s37 s49 s62 s70 s77 s139 => 
(k [s0, s1, s2, s6, (.sl [] .nil), s8, s9, s10, s11, s12, s13, s14, s15, s16, s17, s25, s33, s37, s49, s62, s70, s77, s139] H : R))
noncomputable def r12_0 (k : KT R) : KT R := fun fr H => opn 23 fr (fun s0 s1 s2 s6 s7 s8 s9 s10 s11 s12 s13 s14 s15 s16 s17 s25 s33 s37 s49 s62 s70 s77 s139 => 
(k [s0, s1, s2, (.bool false), s7, s8, s9, s10, s11, s12, s13, s14, s15, s16, s17, s25, s33, s37, s49, s62, s70, s77, s139] H : R))
noncomputable def c12 (C : CallF) (l0 : List AV) (H : AH) (k : AV → AH → R) : R := opn 3 l0 (fun x0 x1 x2 => (qFn (fun kr => (r12_0 (r12_1 (r12_2 (r12_3 (qBl (fun k9 => (qLoop (l12_14 k9))) (r12_14 (r12_15 (qCd (sel 18) (fun k8 => (r12_16 k8)) (fun k8 => k8) (r12_17 C (r12_18 (qCd (sel 19) (fun _ => (r12_19 kr)) (fun k7 => k7) (r12_20 (r12_21 (qBl (fun k1 => (qLoop (l12_6 k1 kr))) (r12_29 (r12_30 C kr)))))))))))))))))
(fun fr H => k (sel 3 fr) H) [x0, x1, x2, Aes.undef, Aes.undef, Aes.undef, Aes.undef, Aes.undef, Aes.undef, Aes.undef, Aes.undef, Aes.undef, Aes.undef, Aes.undef, Aes.undef, Aes.undef, Aes.undef, Aes.undef, Aes.undef, Aes.undef, Aes.undef, Aes.undef, Aes.undef] H : R))
/- refectory/refectorylaw19.FillAll -/
noncomputable def r13_6 (C : CallF) (k : KT R) : KT R := fun fr H => opn 8 fr (fun s0 s2 s3 s4 s5 s6 s7 s10 => 
(qLdA 4 s4 H fun v24 =>
qLdA 4 s6 H fun v25 =>
qRes (C 38 [v24, v25] H) fun v26 H =>
qG v26 true (fun k => k s5 H) H fun v28 H =>
qG v26 true (fun k => k s7 H) H fun v29 H =>
qG v26 true (fun k => qRes (C 39 [v28, v29] H) k) H fun v30 H =>
qPick v26 v30 (.bool false) fun v31 =>
qG v31 true (fun k => k s0 H) H fun v33 H =>
qG v31 true (fun k => qRes (C 40 [v33] H) k) H fun v34 H =>
qG v31 true (fun k => k s3 H) H fun v35 H =>
qG v31 true (fun k => qRes (C 41 [v35] H) k) H fun v36 H =>
qG v31 true (fun k => qEql X 3 v34 v36 fun v => k v H) H fun v37 H =>
qPick v31 v37 (.bool false) fun v38 =>
qG v38 true (fun k => qRes (C 33 [] H) k) H fun v40 H =>
qPick v38 v40 (.bool false) fun v41 =>
k [s0, v41, s3, s4, s5, s6, s7, s10] H : R))
noncomputable def r13_5 (C : CallF) (k : KT R) : KT R := fun fr H => opn 8 fr (fun s0 s2 s3 s4 s5 s6 s7 s10 => 
(qRes (C 37 [s3] H) fun v21 H =>
qExt v21 0 fun v22 =>
qExt v21 1 fun v23 =>
qNew (.cells z58) .ptr H fun v6 H =>
qSt 4 v6 v22 H fun _ H =>
k [s0, s2, s3, s4, s5, v6, v23, s10] H : R))
noncomputable def r13_4 (C : CallF) (k : KT R) : KT R := fun fr H => opn 8 fr (fun s0 s2 s3 s4 s5 s6 s7 s10 => 
(qRes (C 32 [s0] H) fun v16 H =>
qExt v16 0 fun v17 =>
qExt v16 1 fun v18 =>
qNew (.cells z58) .ptr H fun v4 H =>
qSt 4 v4 v17 H fun _ H =>
k [s0, s2, s3, v4, v18, s6, s7, s10] H : R))
noncomputable def r13_3 (C : CallF) (k : KT R) : KT R := fun fr H => opn 8 fr (fun s0 s2 s3 s4 s5 s6 s7 s10 => 
(qRes (C 36 [s0, (.int .i64 20)] H) fun v13 H =>
k [s0, s2, v13, s4, s5, s6, s7, s10] H : R))
noncomputable def r13_2 (C : CallF) (k : KT R) : KT R := fun fr H => opn 8 fr (fun s0 s2 s3 s4 s5 s6 s7 s10 => 
(qRes (C 33 [] H) fun v11 H =>
k [s0, v11, s3, s4, s5, s6, s7, s10] H : R))
noncomputable def r13_1 (C : CallF) (k : KT R) : KT R := fun fr H => opn 8 fr (fun s0 s2 s3 s4 s5 s6 s7 s10 => 
(qRes (C 35 [s0, (.int .i64 10)] H) fun v9 H =>
qNot v9 fun v10 =>
k [s0, s2, s3, s4, s5, s6, s7, v10] H : R))
noncomputable def r13_0 (k : KT R) : KT R := fun fr H => opn 8 fr (fun s0 s2 s3 s4 s5 s6 s7 s10 => 
(k [s0, (.bool false), s3, s4, s5, s6, s7, s10] H : R))
noncomputable def c13 (C : CallF) (l0 : List AV) (H : AH) (k : AV → AH → R) : R := opn 1 l0 (fun x0 => (qFn (fun kr => (r13_0 (r13_1 C (qCd (sel 7) (fun _ => (r13_2 C kr)) (fun k1 => k1) (r13_3 C (r13_4 C (r13_5 C (r13_6 C kr))))))))
(fun fr H => k (sel 1 fr) H) [x0, Aes.undef, Aes.undef, Aes.undef, Aes.undef, Aes.undef, Aes.undef, Aes.undef] H : R))
/- refectory/refectorylaw19.FillNumbers -/
noncomputable def r14_6 (C : CallF) (k : KT R) : KT R := fun fr H => opn 8 fr (fun s0 s2 s3 s5 s6 s7 s8 s11 => 
(qLdA 4 s5 H fun v29 =>
qLdA 4 s7 H fun v30 =>
qRes (C 38 [v29, v30] H) fun v31 H =>
qG v31 true (fun k => k s6 H) H fun v33 H =>
qG v31 true (fun k => k s8 H) H fun v34 H =>
qG v31 true (fun k => qRes (C 39 [v33, v34] H) k) H fun v35 H =>
qPick v31 v35 (.bool false) fun v36 =>
qG v36 true (fun k => k s3 H) H fun v38 H =>
qG v36 true (fun k => qRes (C 43 [v38] H) k) H fun v39 H =>
qG v36 true (fun k => qRes (C 40 [v39] H) k) H fun v40 H =>
qG v36 true (fun k => k s3 H) H fun v41 H =>
qG v36 true (fun k => qRes (C 41 [v41] H) k) H fun v42 H =>
qG v36 true (fun k => qEql X 3 v40 v42 fun v => k v H) H fun v43 H =>
qPick v36 v43 (.bool false) fun v44 =>
qG v44 true (fun k => qRes (C 33 [] H) k) H fun v46 H =>
qPick v44 v46 (.bool false) fun v47 =>
k [s0, v47, s3, s5, s6, s7, s8, s11] H : R))
noncomputable def r14_5 (C : CallF) (k : KT R) : KT R := fun fr H => opn 8 fr (fun s0 s2 s3 s5 s6 s7 s8 s11 => 
(qRes (C 37 [s3] H) fun v26 H =>
qExt v26 0 fun v27 =>
qExt v26 1 fun v28 =>
qNew (.cells z58) .ptr H fun v7 H =>
qSt 4 v7 v27 H fun _ H =>
k [s0, s2, s3, s5, s6, v7, v28, s11] H : R))
noncomputable def r14_4 (C : CallF) (k : KT R) : KT R := fun fr H => opn 8 fr (fun s0 s2 s3 s5 s6 s7 s8 s11 => 
(qRes (C 43 [s3] H) fun v20 H =>
qRes (C 32 [v20] H) fun v21 H =>
qExt v21 0 fun v22 =>
qExt v21 1 fun v23 =>
qNew (.cells z58) .ptr H fun v5 H =>
qSt 4 v5 v22 H fun _ H =>
k [s0, s2, s3, v5, v23, s7, s8, s11] H : R))
noncomputable def r14_3 (C : CallF) (k : KT R) : KT R := fun fr H => opn 8 fr (fun s0 s2 s3 s5 s6 s7 s8 s11 => 
(qRes (C 42 [s0, (.int .i64 0), (.int .i64 5)] H) fun v15 H =>
qExt v15 0 fun v16 =>
qExt v15 1 fun v17 =>
k [s0, s2, v16, s5, s6, s7, s8, s11] H : R))
noncomputable def r14_2 (C : CallF) (k : KT R) : KT R := fun fr H => opn 8 fr (fun s0 s2 s3 s5 s6 s7 s8 s11 => 
(qRes (C 33 [] H) fun v12 H =>
k [s0, v12, s3, s5, s6, s7, s8, s11] H : R))
noncomputable def r14_1 (k : KT R) : KT R := fun fr H => opn 8 fr (fun s0 s2 s3 s5 s6 s7 s8 s11 => 
(qLenL s0 fun v10 =>
qGtr X 3 v10 (.int .i64 80) fun v11 =>
k [s0, s2, s3, s5, s6, s7, s8, v11] H : R))
noncomputable def r14_0 (k : KT R) : KT R := fun fr H => opn 8 fr (fun s0 s2 s3 s5 s6 s7 s8 s11 => 
(k [s0, (.bool false), s3, s5, s6, s7, s8, s11] H : R))
noncomputable def c14 (C : CallF) (l0 : List AV) (H : AH) (k : AV → AH → R) : R := opn 1 l0 (fun x0 => (qFn (fun kr => (r14_0 (r14_1 (qCd (sel 7) (fun _ => (r14_2 C kr)) (fun k1 => k1) (r14_3 C (r14_4 C (r14_5 C (r14_6 C kr))))))))
(fun fr H => k (sel 1 fr) H) [x0, Aes.undef, Aes.undef, Aes.undef, Aes.undef, Aes.undef, Aes.undef, Aes.undef] H : R))
/- refectory/bucket.New -/
noncomputable def r15_4 (k : KT R) : KT R := fun fr H => opn 4 fr (fun s0 s1 s4 s5 => 
(k [s0, s1, s5, s5] H : R))
noncomputable def r15_3 (C : CallF) (k : KT R) : KT R := fun fr H => opn 4 fr (fun s0 s1 s4 s5 => 
(qNc s5 fun v18 =>
qFa 3 v18 fun v19 =>
qLd v19 H fun v20 =>
qNc s5 fun v22 =>
qFa 1 v22 fun v23 =>
qLd v23 H fun v24 =>
qCallV C v20 [v24] H fun v25 H =>
k [s0, s1, s4, s5] H : R))
noncomputable def r15_2 (k : KT R) : KT R := fun fr H => opn 4 fr (fun s0 s1 s4 s5 => 
(qNc s5 fun v15 =>
qFa 3 v15 fun v16 =>
qSt 1 v16 (.fn (.func 45) [s5] []) H fun _ H =>
k [s0, s1, s4, s5] H : R))
noncomputable def r15_1 (C : CallF) (k : KT R) : KT R := fun fr H => opn 4 fr (fun s0 s1 s4 s5 => 
(qRes (C 44 [s0, (.int .i64 1000)] H) fun v7 H =>
qRes (C 44 [s1, (.int .i64 100000)] H) fun v9 H =>
qBld z88 [(0, 1, v7), (1, 1, v9)] fun v10 =>
qBox v10 H fun v11 H =>
k [s0, s1, s4, v11] H : R))
noncomputable def r15_0 (k : KT R) : KT R := fun fr H => opn 4 fr (fun s0 s1 s4 s5 => 
(k [s0, s1, (.nilp), s5] H : R))
noncomputable def c15 (C : CallF) (l0 : List AV) (H : AH) (k : AV → AH → R) : R := opn 2 l0 (fun x0 x1 => (qFn (fun kr => (r15_0 (r15_1 C (r15_2 (r15_3 C (r15_4 kr))))))
(fun fr H => k (sel 2 fr) H) [x0, x1, Aes.undef, Aes.undef] H : R))
/- refectory/refectoryref22.New -/
noncomputable def r16_3 (k : KT R) : KT R := fun fr H => opn 4 fr (fun s0 s1 s4 s5 => 
(k [s0, s1, s5, s5] H : R))
noncomputable def r16_2 (k : KT R) : KT R := fun fr H => opn 4 fr (fun s0 s1 s4 s5 => 
(qNc s5 fun v16 =>
qFa 1 v16 fun v17 =>
qLd v17 H fun v18 =>
qNc s5 fun v19 =>
qFa 2 v19 fun v20 =>
qSt 1 v20 v18 H fun _ H =>
k [s0, s1, s4, s5] H : R))
noncomputable def r16_1 (k : KT R) : KT R := fun fr H => opn 4 fr (fun s0 s1 s4 s5 => 
(qO (foldO max2 s0 [(.int .i64 0)]) fun v7 =>
qO (foldO min2 v7 [(.int .i64 1000)]) fun v8 =>
qO (foldO max2 s1 [(.int .i64 0)]) fun v10 =>
qO (foldO min2 v10 [(.int .i64 100000)]) fun v11 =>
qBld z31 [(0, 1, v8), (1, 1, v11)] fun v12 =>
qBox v12 H fun v13 H =>
k [s0, s1, s4, v13] H : R))
noncomputable def r16_0 (k : KT R) : KT R := fun fr H => opn 4 fr (fun s0 s1 s4 s5 => 
(k [s0, s1, (.nilp), s5] H : R))
noncomputable def c16 (C : CallF) (l0 : List AV) (H : AH) (k : AV → AH → R) : R := opn 2 l0 (fun x0 x1 => (qFn (fun kr => (r16_0 (r16_1 (r16_2 (r16_3 kr)))))
(fun fr H => k (sel 2 fr) H) [x0, x1, Aes.undef, Aes.undef] H : R))
/- (*refectory/bucket.Bucket).Tick -/
noncomputable def r17_0 (C : CallF) (k : KT R) : KT R := fun fr H => opn 2 fr (fun s0 s1 => 
(qNc s0 fun v5 =>
qFa 3 v5 fun v6 =>
qLd v6 H fun v7 =>
qNc s0 fun v9 =>
qFa 0 v9 fun v10 =>
qLd v10 H fun v11 =>
qRes (C 44 [s1, (.int .i64 1073741824)] H) fun v13 H =>
qLd v10 H fun w => qSame v11 w (qLd v6 H fun w => qSame v7 w (qMul X 3 v11 v13 fun v14 =>
qCallV C v7 [v14] H fun v15 H =>
k [s0, s1] H)) : R))
noncomputable def c17 (C : CallF) (l0 : List AV) (H : AH) (k : AV → AH → R) : R := opn 2 l0 (fun x0 x1 => (qFn (fun kr => (r17_0 C kr))
(fun fr H => k (.tup []) H) [x0, x1] H : R))
/- (*refectory/refectoryref22.B).Tick -/
noncomputable def r18_0 (k : KT R) : KT R := fun fr H => opn 2 fr (fun s0 s1 => 
(qNc s0 fun v6 =>
qFa 2 v6 fun v7 =>
qLd v7 H fun v8 =>
qNc s0 fun v10 =>
qFa 0 v10 fun v11 =>
qLd v11 H fun v12 =>
qO (foldO max2 s1 [(.int .i64 0)]) fun v14 =>
qO (foldO min2 v14 [(.int .i64 1073741824)]) fun v15 =>
qMul X 3 v12 v15 fun v16 =>
qAdd X 3 v8 v16 fun v17 =>
qNc s0 fun v19 =>
qFa 1 v19 fun v20 =>
qLd v20 H fun v21 =>
qO (foldO min2 v17 [v21]) fun v22 =>
qNc s0 fun v23 =>
qFa 2 v23 fun v24 =>
qSt 1 v24 v22 H fun _ H =>
k [s0, s1] H : R))
noncomputable def c18 (C : CallF) (l0 : List AV) (H : AH) (k : AV → AH → R) : R := opn 2 l0 (fun x0 x1 => (qFn (fun kr => (r18_0 kr))
(fun fr H => k (.tup []) H) [x0, x1] H : R))
/- (*refectory/bucket.Bucket).Take -/
noncomputable def r19_5 (k : KT R) : KT R := fun fr H => opn 4 fr (fun s0 s1 s4 s12 => 
(k [s0, s1, (.bool true), s12] H : R))
noncomputable def r19_4 (k : KT R) : KT R := fun fr H => opn 4 fr (fun s0 s1 s4 s12 => 
(qNc s0 fun v14 =>
qFa 2 v14 fun v15 =>
qLd v15 H fun v16 =>
qSub X 3 v16 s1 fun v18 =>
qNc s0 fun v19 =>
qFa 2 v19 fun v20 =>
qSt 1 v20 v18 H fun _ H =>
k [s0, s1, s4, s12] H : R))
noncomputable def r19_3 (k : KT R) : KT R := fun fr H => opn 4 fr (fun s0 s1 s4 s12 => 
(k [s0, s1, (.bool false), s12] H : R))
noncomputable def r19_2 (k : KT R) : KT R := fun fr H => opn 4 fr (fun s0 s1 s4 s12 => 
(qNc s0 fun v9 =>
qFa 2 v9 fun v10 =>
qLd v10 H fun v11 =>
qGtr X 3 s1 v11 fun v12 =>
k [s0, s1, s4, v12] H : R))
noncomputable def r19_1 (k : KT R) : KT R := fun fr H => opn 4 fr (fun s0 s1 s4 s12 => 
(qO (foldO max2 s1 [(.int .i64 0)]) fun v6 =>
k [s0, v6, s4, s12] H : R))
noncomputable def r19_0 (k : KT R) : KT R := fun fr H => opn 4 fr (fun s0 s1 s4 s12 => 
(k [s0, s1, (.bool false), s12] H : R))
noncomputable def c19 (C : CallF) (l0 : List AV) (H : AH) (k : AV → AH → R) : R := opn 2 l0 (fun x0 x1 => (qFn (fun kr => (r19_0 (r19_1 (r19_2 (qCd (sel 3) (fun _ => (r19_3 kr)) (fun k1 => k1) (r19_4 (r19_5 kr)))))))
(fun fr H => k (sel 2 fr) H) [x0, x1, Aes.undef, Aes.undef] H : R))
/- (*refectory/refectoryref22.B).Take -/
noncomputable def r20_5 (k : KT R) : KT R := fun fr H => opn 4 fr (fun s0 s1 s4 s12 => 
(k [s0, s1, (.bool true), s12] H : R))
noncomputable def r20_4 (k : KT R) : KT R := fun fr H => opn 4 fr (fun s0 s1 s4 s12 => 
(qNc s0 fun v15 =>
qFa 2 v15 fun v16 =>
qLd v16 H fun v17 =>
qSub X 3 v17 s1 fun v19 =>
qNc s0 fun v20 =>
qFa 2 v20 fun v21 =>
qSt 1 v21 v19 H fun _ H =>
k [s0, s1, s4, s12] H : R))
noncomputable def r20_3 (k : KT R) : KT R := fun fr H => opn 4 fr (fun s0 s1 s4 s12 => 
(k [s0, s1, (.bool false), s12] H : R))
noncomputable def r20_2 (k : KT R) : KT R := fun fr H => opn 4 fr (fun s0 s1 s4 s12 => 
(qNc s0 fun v9 =>
qFa 2 v9 fun v10 =>
qLd v10 H fun v11 =>
qGtr X 3 s1 v11 fun v12 =>
k [s0, s1, s4, v12] H : R))
noncomputable def r20_1 (k : KT R) : KT R := fun fr H => opn 4 fr (fun s0 s1 s4 s12 => 
(qO (foldO max2 s1 [(.int .i64 0)]) fun v6 =>
k [s0, v6, s4, s12] H : R))
noncomputable def r20_0 (k : KT R) : KT R := fun fr H => opn 4 fr (fun s0 s1 s4 s12 => 
(k [s0, s1, (.bool false), s12] H : R))
noncomputable def c20 (C : CallF) (l0 : List AV) (H : AH) (k : AV → AH → R) : R := opn 2 l0 (fun x0 x1 => (qFn (fun kr => (r20_0 (r20_1 (r20_2 (qCd (sel 3) (fun _ => (r20_3 kr)) (fun k1 => k1) (r20_4 (r20_5 kr)))))))
(fun fr H => k (sel 2 fr) H) [x0, x1, Aes.undef, Aes.undef] H : R))
/- (*refectory/bucket.Bucket).Level -/
noncomputable def r21_1 (k : KT R) : KT R := fun fr H => opn 2 fr (fun s0 s2 => 
(qNc s0 fun v4 =>
qFa 2 v4 fun v5 =>
qLd v5 H fun v6 =>
k [s0, v6] H : R))
noncomputable def r21_0 (k : KT R) : KT R := fun fr H => opn 2 fr (fun s0 s2 => 
(k [s0, (.int .i64 0)] H : R))
noncomputable def c21 (C : CallF) (l0 : List AV) (H : AH) (k : AV → AH → R) : R := opn 1 l0 (fun x0 => (qFn (fun kr => (r21_0 (r21_1 kr)))
(fun fr H => k (sel 1 fr) H) [x0, Aes.undef] H : R))
/- refectory/refectorylaw22.awake -/
noncomputable def r22_2 (C : CallF) (k : KT R) : KT R := fun fr H => opn 2 fr (fun s0 s1 => 
(qNeq X 23 s1 (.nilp) fun v4 =>
qG v4 true (fun k => k s1 H) H fun v6 H =>
qG v4 true (fun k => qRes (C 19 [v6, (.int .i64 5)] H) k) H fun v7 H =>
qPick v4 v7 (.bool false) fun v8 =>
qG v8 true (fun k => k s1 H) H fun v10 H =>
qG v8 true (fun k => qRes (C 19 [v10, (.int .i64 1)] H) k) H fun v11 H =>
qG v8 true (fun k => qNot v11 fun v => k v H) H fun v12 H =>
qPick v8 v12 (.bool false) fun v13 =>
qG v13 true (fun k => k s1 H) H fun v15 H =>
qG v13 true (fun k => qRes (C 21 [v15] H) k) H fun v16 H =>
qG v13 true (fun k => qEql X 3 v16 (.int .i64 0) fun v => k v H) H fun v17 H =>
qPick v13 v17 (.bool false) fun v18 =>
k [v18, s1] H : R))
noncomputable def r22_1 (C : CallF) (k : KT R) : KT R := fun fr H => opn 2 fr (fun s0 s1 => 
(qRes (C 15 [(.int .i64 1), (.int .i64 5)] H) fun v2 H =>
k [s0, v2] H : R))
noncomputable def r22_0 (k : KT R) : KT R := fun fr H => opn 2 fr (fun s0 s1 => 
(k [(.bool false), s1] H : R))
noncomputable def c22 (C : CallF) (l0 : List AV) (H : AH) (k : AV → AH → R) : R := opn 0 l0 ((qFn (fun kr => (r22_0 (r22_1 C (r22_2 C kr))))
(fun fr H => k (sel 0 fr) H) [Aes.undef, Aes.undef] H : R))
/- refectory/refectorylaw00.Place -/
noncomputable def r23_4 (k : KT R) : KT R := fun fr H => opn 5 fr (fun s0 s1 s4 s5 s10 => 
(k [s0, s1, s5, s5, s10] H : R))
noncomputable def r23_3 (k : KT R) : KT R := fun fr H => opn 5 fr (fun s0 s1 s4 s5 s10 => 
(qAdd X 3 s5 s1 fun v13 =>
k [s0, s1, s4, v13, s10] H : R))
noncomputable def r23_2 (k : KT R) : KT R := fun fr H => opn 5 fr (fun s0 s1 s4 s5 s10 => 
(qLss X 3 s5 (.int .i64 0) fun v10 =>
k [s0, s1, s4, s5, v10] H : R))
noncomputable def r23_1 (k : KT R) : KT R := fun fr H => opn 5 fr (fun s0 s1 s4 s5 s10 => 
(qRem X 3 s0 s1 fun v8 =>
k [s0, s1, s4, v8, s10] H : R))
noncomputable def r23_0 (k : KT R) : KT R := fun fr H => opn 5 fr (fun s0 s1 s4 s5 s10 => 
(k [s0, s1, (.int .i64 0), s5, s10] H : R))
noncomputable def c23 (C : CallF) (l0 : List AV) (H : AH) (k : AV → AH → R) : R := opn 2 l0 (fun x0 x1 => (qFn (fun kr => (r23_0 (r23_1 (r23_2 (qCd (sel 4) (fun k1 => (r23_3 k1)) (fun k1 => k1) (r23_4 kr))))))
(fun fr H => k (sel 2 fr) H) [x0, x1, Aes.undef, Aes.undef, Aes.undef] H : R))
/- refectory/refectorylaw24.awake -/
noncomputable def r24_11 (C : CallF) (k : KT R) : KT R := fun fr H => opn 9 fr (fun s0 s1 s2 s3 s4 s5 s9 s12 s29 => 
(qRes (C 30 [s1] H) fun v31 H =>
qLenL v31 fun v32 =>
qEql X 3 v32 (.int .i64 2) fun v33 =>
qG v33 true (fun k => k s1 H) H fun v35 H =>
qG v33 true (fun k => qRes (C 30 [v35] H) k) H fun v36 H =>
qG v33 true (fun k => qIa 1 v36 (.int .i64 1) fun v => k v H) H fun v37 H =>
qG v33 true (fun k => qLd v37 H fun v => k v H) H fun v38 H =>
qG v33 true (fun k => qEql X 3 v38 (.int .i64 4) fun v => k v H) H fun v39 H =>
qPick v33 v39 (.bool false) fun v40 =>
qG v40 true (fun k => k s1 H) H fun v42 H =>
qG v40 true (fun k => qRes (C 31 [v42] H) k) H fun v43 H =>
qG v40 true (fun k => qLenL v43 fun v => k v H) H fun v44 H =>
qG v40 true (fun k => qEql X 3 v44 (.int .i64 2) fun v => k v H) H fun v45 H =>
qPick v40 v45 (.bool false) fun v46 =>
k [v46, s1, s2, s3, s4, s5, s9, s12, s29] H : R))
noncomputable def r24_7 (k : KT R) : KT R := fun fr H => opn 9 fr (fun s0 s1 s2 s3 s4 s5 s9 s12 s29 => 
(qAdd X 3 s3 (.int .i64 1) fun v14 =>
k [s0, s1, s2, v14, s4, s5, s9, s12, s29] H : R))
noncomputable def r24_10 (k : KT R) : KT R := fun fr H => opn 9 fr (fun s0 s1 s2 s3 s4 s5 s9 s12 s29 => 
(k [(.bool false), s1, s2, s3, s4, s5, s9, s12, s29] H : R))
noncomputable def r24_9 (k : KT R) : KT R := fun fr H => opn 9 fr (fun s0 s1 s2 s3 s4 s5 s9 s12 s29 => 
(qNot s5 fun v22 =>
qG v22 false (fun k => k s4 H) H fun v24 H =>
qG v22 false (fun k => k s3 H) H fun v25 H =>
qG v22 false (fun k => qIaA 6 1 s2 v25 fun v => k v H) H fun v26 H =>
qG v22 false (fun k => qLd v26 H fun v => k v H) H fun v27 H =>
qG v22 false (fun k => qNeq X 3 v24 v27 fun v => k v H) H fun v28 H =>
qPick v22 (.bool true) v28 fun v29 =>
k [s0, s1, s2, s3, s4, s5, s9, s12, v29] H : R))
noncomputable def r24_8 (C : CallF) (k : KT R) : KT R := fun fr H => opn 9 fr (fun s0 s1 s2 s3 s4 s5 s9 s12 s29 => 
(qRows z3 2 [(0, (.int .i64 1)), (1, (.int .i64 1))] fun v17 =>
qRes (C 27 [s1, v17] H) fun v18 H =>
qExt v18 0 fun v19 =>
qExt v18 1 fun v20 =>
k [s0, s1, s2, s3, v19, v20, s9, s12, s29] H : R))
noncomputable def r24_6 (k : KT R) : KT R := fun fr H => opn 9 fr (fun s0 s1 s2 s3 s4 s5 s9 s12 s29 => 
(qLss X 3 s3 (.int .i64 6) fun v12 =>
k [s0, s1, s2, s3, s4, s5, s9, v12, s29] H : R))
noncomputable def l24_5 (C : CallF) (k1 : KT R) (kr : KT R) : KT R → KT R := fun k2 => (r24_6 (qCd (sel 7) (fun k5 => k5) (fun _ => k1) (qBl (fun k3 => (r24_8 C (r24_9 (qCd (sel 8) (fun _ => (r24_10 kr)) (fun k4 => k4) k3)))) (r24_7 k2))))
noncomputable def r24_5 (k : KT R) : KT R := fun fr H => opn 9 fr (fun s0 s1 s2 s3 s4 s5 s9 s12 s29 => 
(k [s0, s1, s2, (.int .i64 0), s4, s5, s9, s12, s29] H : R))
noncomputable def r24_4 (k : KT R) : KT R := fun fr H => opn 9 fr (fun s0 s1 s2 s3 s4 s5 s9 s12 s29 => 
(qBld z89 [(0, 1, (.int .i64 0)), (1, 1, (.int .i64 1)), (2, 1, (.int .i64 1)), (3, 1, (.int .i64 0)), (4, 1, (.int .i64 1)), (5, 1, (.int .i64 1))] fun v10 =>
qNew (.cells z89) .ptr H fun v2 H =>
qSt 6 v2 v10 H fun _ H =>
k [s0, s1, v2, s3, s4, s5, s9, s12, s29] H : R))
noncomputable def r24_3 (k : KT R) : KT R := fun fr H => opn 9 fr (fun s0 s1 s2 s3 s4 s5 s9 s12 s29 => 
(k [(.bool false), s1, s2, s3, s4, s5, s9, s12, s29] H : R))
noncomputable def r24_2 (k : KT R) : KT R := fun fr H => opn 9 fr (fun s0 s1 s2 s3 s4 s5 s9 s12 s29 => 
(qEql X 37 s1 (.nilp) fun v9 =>
k [s0, s1, s2, s3, s4, s5, v9, s12, s29] H : R))
noncomputable def r24_1 (C : CallF) (k : KT R) : KT R := fun fr H => opn 9 fr (fun s0 s1 s2 s3 s4 s5 s9 s12 s29 => 
(qRows z3 2 [(0, (.int .i64 1)), (1, (.int .i64 2))] fun v6 =>
qRes (C 25 [(.int .i64 1), v6] H) fun v7 H =>
k [s0, v7, s2, s3, s4, s5, s9, s12, s29] H : R))
noncomputable def r24_0 (k : KT R) : KT R := fun fr H => opn 9 fr (fun s0 s1 s2 s3 s4 s5 s9 s12 s29 => 
(k [(.bool false), s1, s2, s3, s4, s5, s9, s12, s29] H : R))
noncomputable def c24 (C : CallF) (l0 : List AV) (H : AH) (k : AV → AH → R) : R := opn 0 l0 ((qFn (fun kr => (r24_0 (r24_1 C (r24_2 (qCd (sel 6) (fun _ => (r24_3 kr)) (fun k6 => k6) (r24_4 (r24_5 (qBl (fun k1 => (qLoop (l24_5 C k1 kr))) (r24_11 C kr)))))))))
(fun fr H => k (sel 0 fr) H) [Aes.undef, Aes.undef, Aes.undef, Aes.undef, Aes.undef, Aes.undef, Aes.undef, Aes.undef, Aes.undef] H : R))
/- refectory/share.New -/
noncomputable def r25_7 (k : KT R) : KT R := fun fr H => opn 8 fr (fun s0 s1 s4 s5 s6 s17 s18 s19 => 
(k [s0, s1, s5, s5, s6, s17, s18, s19] H : R))
noncomputable def r25_6 (k : KT R) : KT R := fun fr H => opn 8 fr (fun s0 s1 s4 s5 s6 s17 s18 s19 => 
(qAdd X 3 s18 (.int .i64 1) fun v31 =>
k [s0, s1, s4, s5, s6, s17, v31, s19] H : R))
noncomputable def r25_5 (C : CallF) (k : KT R) : KT R := fun fr H => opn 8 fr (fun s0 s1 s4 s5 s6 s17 s18 s19 => 
(qIa 1 s1 s6 fun v25 =>
qLd v25 H fun v26 =>
qNc s5 fun v28 =>
qFa 2 v28 fun v29 =>
qRes (C 46 [v26, (.int .i64 20)] H) fun v27 H =>
qIaA 8 1 v29 s6 fun v30 =>
qSt 1 v30 v27 H fun _ H =>
k [s0, s1, s4, s5, s6, s17, s18, s19] H : R))
noncomputable def r25_4 (k : KT R) : KT R := fun fr H => opn 8 fr (fun s0 s1 s4 s5 s6 s17 s18 s19 => 
(k [s0, s1, s4, s5, s18, s17, s18, s19] H : R))
noncomputable def r25_3 (k : KT R) : KT R := fun fr H => opn 8 fr (fun s0 s1 s4 s5 s6 s17 s18 s19 => 
(qLss X 3 s18 s17 fun v19 =>
k [s0, s1, s4, s5, s6, s17, s18, v19] H : R))
noncomputable def l25_4 (C : CallF) (k1 : KT R) : KT R → KT R := fun k2 => (r25_3 (qCd (sel 7) (fun k4 => k4) (fun _ => k1) (qBl (fun k3 => (r25_4 (r25_5 C k3))) (r25_6 k2))))
noncomputable def r25_2 (k : KT R) : KT R := fun fr H => opn 8 fr (fun s0 s1 s4 s5 s6 s17 s18 s19 => 
(qNc s5 fun v15 =>
qFa 1 v15 fun v16 =>
qLd v16 H fun v17 =>
k [s0, s1, s4, s5, s6, v17, (.int .i64 0), s19] H : R))
noncomputable def r25_1 (C : CallF) (k : KT R) : KT R := fun fr H => opn 8 fr (fun s0 s1 s4 s5 s6 s17 s18 s19 => 
(qRes (C 46 [s0, (.int .i64 1000)] H) fun v8 H =>
qLenL s1 fun v10 =>
qO (foldO min2 v10 [(.int .i64 8)]) fun v11 =>
qBld z92 [(0, 1, v8), (1, 1, v11)] fun v12 =>
qBox v12 H fun v13 H =>
k [s0, s1, s4, v13, s6, s17, s18, s19] H : R))
noncomputable def r25_0 (k : KT R) : KT R := fun fr H => opn 8 fr (fun s0 s1 s4 s5 s6 s17 s18 s19 => 
(k [s0, s1, (.nilp), s5, s6, s17, s18, s19] H : R))
noncomputable def c25 (C : CallF) (l0 : List AV) (H : AH) (k : AV → AH → R) : R := opn 2 l0 (fun x0 x1 => (qFn (fun kr => (r25_0 (r25_1 C (r25_2 (qBl (fun k1 => (qLoop (l25_4 C k1))) (r25_7 kr))))))
(fun fr H => k (sel 2 fr) H) [x0, x1, Aes.undef, Aes.undef, Aes.undef, Aes.undef, Aes.undef, Aes.undef] H : R))
/- refectory/refectoryref24.New -/
noncomputable def r26_7 (k : KT R) : KT R := fun fr H => opn 6 fr (fun s0 s1 s4 s5 s6 s19 => 
(k [s0, s1, s5, s5, s6, s19] H : R))
noncomputable def r26_4 (k : KT R) : KT R := fun fr H => opn 6 fr (fun s0 s1 s4 s5 s6 s19 => 
(qAdd X 3 s6 (.int .i64 1) fun v21 =>
k [s0, s1, s4, s5, v21, s19] H : R))
noncomputable def r26_6 (k : KT R) : KT R := fun fr H => opn 6 fr (fun s0 s1 s4 s5 s6 s19 => 
(qNc s5 fun v40 =>
qFa 2 v40 fun v41 =>
qLd v41 H fun v42 =>
qRows z3 1 [(0, (.int .i64 0))] fun v43 =>
qNc s5 fun v46 =>
qFa 3 v46 fun v47 =>
qLd v47 H fun v48 =>
qRows z3 1 [(0, (.int .i64 0))] fun v49 =>
qApp 1 8 v42 v43 true H fun v44 H =>
qLd v47 H fun w => qSame v48 w (qApp 1 8 v48 v49 true H fun v50 H =>
qNc s5 fun v51 =>
qFa 2 v51 fun v52 =>
qSt 1 v52 v44 H fun _ H =>
qNc s5 fun v53 =>
qFa 3 v53 fun v54 =>
qSt 1 v54 v50 H fun _ H =>
k [s0, s1, s4, s5, s6, s19] H) : R))
noncomputable def r26_5 (k : KT R) : KT R := fun fr H => opn 6 fr (fun s0 s1 s4 s5 s6 s19 => 
(qNc s5 fun v24 =>
qFa 1 v24 fun v25 =>
qLd v25 H fun v26 =>
qIa 1 s1 s6 fun v29 =>
qLd v29 H fun v30 =>
qO (foldO max2 v30 [(.int .i64 1)]) fun v31 =>
qO (foldO min2 v31 [(.int .i64 20)]) fun v32 =>
qRows z3 1 [(0, v32)] fun v33 =>
qApp 1 8 v26 v33 false H fun v34 H =>
qNc s5 fun v35 =>
qFa 1 v35 fun v36 =>
qSt 1 v36 v34 H fun _ H =>
k [s0, s1, s4, s5, s6, s19] H : R))
noncomputable def r26_3 (k : KT R) : KT R := fun fr H => opn 6 fr (fun s0 s1 s4 s5 s6 s19 => 
(qLenL s1 fun v14 =>
qLss X 3 s6 v14 fun v15 =>
qG v15 true (fun k => k s6 H) H fun v17 H =>
qG v15 true (fun k => qLss X 3 v17 (.int .i64 8) fun v => k v H) H fun v18 H =>
qPick v15 v18 (.bool false) fun v19 =>
k [s0, s1, s4, s5, s6, v19] H : R))
noncomputable def l26_4 (k1 : KT R) : KT R → KT R := fun k2 => (r26_3 (qCd (sel 5) (fun k4 => k4) (fun _ => k1) (qBl (fun k3 => (r26_5 (r26_6 k3))) (r26_4 k2))))
noncomputable def r26_2 (k : KT R) : KT R := fun fr H => opn 6 fr (fun s0 s1 s4 s5 s6 s19 => 
(k [s0, s1, s4, s5, (.int .i64 0), s19] H : R))
noncomputable def r26_1 (k : KT R) : KT R := fun fr H => opn 6 fr (fun s0 s1 s4 s5 s6 s19 => 
(qO (foldO max2 s0 [(.int .i64 1)]) fun v8 =>
qO (foldO min2 v8 [(.int .i64 1000)]) fun v9 =>
qBld z42 [(0, 1, v9)] fun v10 =>
qBox v10 H fun v11 H =>
k [s0, s1, s4, v11, s6, s19] H : R))
noncomputable def r26_0 (k : KT R) : KT R := fun fr H => opn 6 fr (fun s0 s1 s4 s5 s6 s19 => 
(k [s0, s1, (.nilp), s5, s6, s19] H : R))
noncomputable def c26 (C : CallF) (l0 : List AV) (H : AH) (k : AV → AH → R) : R := opn 2 l0 (fun x0 x1 => (qFn (fun kr => (r26_0 (r26_1 (r26_2 (qBl (fun k1 => (qLoop (l26_4 k1))) (r26_7 kr))))))
(fun fr H => k (sel 2 fr) H) [x0, x1, Aes.undef, Aes.undef, Aes.undef, Aes.undef] H : R))
/- (*refectory/share.Share).Next -/
noncomputable def r27_23 (C : CallF) (k : KT R) : KT R := fun fr H => opn 16 fr (fun s0 s1 s4 s5 s6 s7 s8 s9 s10 s17 s18 s19 s43 s62 s69 s101 => 
(qRes (C 47 [s0] H) fun v127 H =>
k [s0, s1, s4, s5, s6, s7, s8, s9, s10, s17, s18, s19, s43, s62, s69, s101] H : R))
noncomputable def r27_22 (k : KT R) : KT R := fun fr H => opn 16 fr (fun s0 s1 s4 s5 s6 s7 s8 s9 s10 s17 s18 s19 s43 s62 s69 s101 => 
(qNc s0 fun v123 =>
qFa 26 v123 fun v124 =>
qLd v124 H fun v125 =>
k [s0, s1, v125, (.bool true), s6, s7, s8, s9, s10, s17, s18, s19, s43, s62, s69, s101] H : R))
noncomputable def r27_21 (k : KT R) : KT R := fun fr H => opn 16 fr (fun s0 s1 s4 s5 s6 s7 s8 s9 s10 s17 s18 s19 s43 s62 s69 s101 => 
(qNc s0 fun v110 =>
qFa 26 v110 fun v111 =>
qLd v111 H fun v112 =>
qNc s0 fun v113 =>
qFa 18 v113 fun v114 =>
qIaA 8 1 v114 v112 fun v115 =>
qLd v115 H fun v116 =>
qAdd X 3 v116 s9 fun v118 =>
qNc s0 fun v119 =>
qFa 18 v119 fun v120 =>
qIaA 8 1 v120 v112 fun v121 =>
qSt 1 v121 v118 H fun _ H =>
k [s0, s1, s4, s5, s6, s7, s8, s9, s10, s17, s18, s19, s43, s62, s69, s101] H : R))
noncomputable def r27_20 (k : KT R) : KT R := fun fr H => opn 16 fr (fun s0 s1 s4 s5 s6 s7 s8 s9 s10 s17 s18 s19 s43 s62 s69 s101 => 
(qNc s10 fun v103 =>
qLd v103 H fun v104 =>
qSub X 3 v104 s9 fun v106 =>
qNc s10 fun v107 =>
qSt 1 v107 v106 H fun _ H =>
k [s0, s1, s4, s5, s6, s7, s8, s9, s10, s17, s18, s19, s43, s62, s69, s101] H : R))
noncomputable def r27_19 (k : KT R) : KT R := fun fr H => opn 16 fr (fun s0 s1 s4 s5 s6 s7 s8 s9 s10 s17 s18 s19 s43 s62 s69 s101 => 
(qNc s10 fun v98 =>
qLd v98 H fun v99 =>
qGeq X 3 v99 s9 fun v101 =>
k [s0, s1, s4, s5, s6, s7, s8, s9, s10, s17, s18, s19, s43, s62, s69, v101] H : R))
noncomputable def r27_15 (C : CallF) (k : KT R) : KT R := fun fr H => opn 16 fr (fun s0 s1 s4 s5 s6 s7 s8 s9 s10 s17 s18 s19 s43 s62 s69 s101 => 
(qRes (C 47 [s0] H) fun v68 H =>
k [s0, s1, s4, s5, s6, s7, s8, s9, s10, s17, s18, s19, s43, s62, s69, s101] H : R))
noncomputable def r27_14 (k : KT R) : KT R := fun fr H => opn 16 fr (fun s0 s1 s4 s5 s6 s7 s8 s9 s10 s17 s18 s19 s43 s62 s69 s101 => 
(qNc s10 fun v66 =>
qSt 1 v66 (.int .i64 0) H fun _ H =>
k [s0, s1, s4, s5, s6, s7, s8, s9, s10, s17, s18, s19, s43, s62, s69, s101] H : R))
noncomputable def r27_18 (k : KT R) : KT R := fun fr H => opn 16 fr (fun s0 s1 s4 s5 s6 s7 s8 s9 s10 s17 s18 s19 s43 s62 s69 s101 => 
(qNc s0 fun v95 =>
qFa 27 v95 fun v96 =>
qSt 1 v96 (.bool true) H fun _ H =>
k [s0, s1, s4, s5, s6, s7, s8, s9, s10, s17, s18, s19, s43, s62, s69, s101] H : R))
noncomputable def r27_17 (k : KT R) : KT R := fun fr H => opn 16 fr (fun s0 s1 s4 s5 s6 s7 s8 s9 s10 s17 s18 s19 s43 s62 s69 s101 => 
(qNc s10 fun v76 =>
qLd v76 H fun v77 =>
qNc s0 fun v79 =>
qFa 0 v79 fun v80 =>
qLd v80 H fun v81 =>
qNc s0 fun v84 =>
qFa 26 v84 fun v85 =>
qLd v85 H fun v86 =>
qNc s0 fun v87 =>
qFa 2 v87 fun v88 =>
qIaA 8 1 v88 v86 fun v89 =>
qLd v89 H fun v90 =>
qMul X 3 v81 v90 fun v91 =>
qAdd X 3 v77 v91 fun v92 =>
qNc s10 fun v93 =>
qSt 1 v93 v92 H fun _ H =>
k [s0, s1, s4, s5, s6, s7, s8, s9, s10, s17, s18, s19, s43, s62, s69, s101] H : R))
noncomputable def r27_16 (k : KT R) : KT R := fun fr H => opn 16 fr (fun s0 s1 s4 s5 s6 s7 s8 s9 s10 s17 s18 s19 s43 s62 s69 s101 => 
(qNc s0 fun v71 =>
qFa 27 v71 fun v72 =>
qLd v72 H fun v73 =>
qNot v73 fun v74 =>
k [s0, s1, s4, s5, s6, s7, s8, s9, s10, s17, s18, s19, s43, s62, v74, s101] H : R))
noncomputable def r27_13 (k : KT R) : KT R := fun fr H => opn 16 fr (fun s0 s1 s4 s5 s6 s7 s8 s9 s10 s17 s18 s19 s43 s62 s69 s101 => 
(qEql X 3 s9 (.int .i64 0) fun v64 =>
k [s0, s1, s4, s5, s6, s7, s8, s9, s10, s17, s18, s19, s43, v64, s69, s101] H : R))
noncomputable def r27_12 (k : KT R) : KT R := fun fr H => opn 16 fr (fun s0 s1 s4 s5 s6 s7 s8 s9 s10 s17 s18 s19 s43 s62 s69 s101 => 
(qNc s0 fun v49 =>
qFa 26 v49 fun v50 =>
qLd v50 H fun v51 =>
qIaA 8 1 s6 v51 fun v52 =>
qLd v52 H fun v53 =>
qNc s0 fun v56 =>
qFa 26 v56 fun v57 =>
qLd v57 H fun v58 =>
qNc s0 fun v59 =>
qFa 10 v59 fun v60 =>
qIaA 8 1 v60 v58 fun v61 =>
k [s0, s1, s4, s5, s6, s7, s8, v53, v61, s17, s18, s19, s43, s62, s69, s101] H : R))
noncomputable def l27_7 (C : CallF) (kr : KT R) : KT R → KT R := fun k2 => (qBl (fun k3 => (r27_12 (qBl (fun k5 => (r27_13 (qCd (sel 13) (fun _ => (r27_14 (r27_15 C k3))) (fun k6 => (r27_16 (qCd (sel 14) (fun k7 => (r27_17 (r27_18 k7))) (fun k7 => k7) k6))) k5))) (r27_19 (qCd (sel 15) (fun _ => (r27_20 (r27_21 (r27_22 kr)))) (fun k4 => k4) (r27_23 C k3)))))) k2)
noncomputable def r27_11 (k : KT R) : KT R := fun fr H => opn 16 fr (fun s0 s1 s4 s5 s6 s7 s8 s9 s10 s17 s18 s19 s43 s62 s69 s101 => 
(k [s0, s1, (.int .i64 0), (.bool false), s6, s7, s8, s9, s10, s17, s18, s19, s43, s62, s69, s101] H : R))
noncomputable def r27_10 (k : KT R) : KT R := fun fr H => opn 16 fr (fun s0 s1 s4 s5 s6 s7 s8 s9 s10 s17 s18 s19 s43 s62 s69 s101 => 
(qBld z90 [] fun v45 =>
qNc s0 fun v46 =>
qFa 10 v46 fun v47 =>
qSt 8 v47 v45 H fun _ H =>
k [s0, s1, s4, s5, s6, s7, s8, s9, s10, s17, s18, s19, s43, s62, s69, s101] H : R))
noncomputable def r27_9 (k : KT R) : KT R := fun fr H => opn 16 fr (fun s0 s1 s4 s5 s6 s7 s8 s9 s10 s17 s18 s19 s43 s62 s69 s101 => 
(qNot s7 fun v43 =>
k [s0, s1, s4, s5, s6, s7, s8, s9, s10, s17, s18, s19, v43, s62, s69, s101] H : R))
noncomputable def r27_8 (k : KT R) : KT R := fun fr H => opn 16 fr (fun s0 s1 s4 s5 s6 s7 s8 s9 s10 s17 s18 s19 s43 s62 s69 s101 => 
(qAdd X 3 s18 (.int .i64 1) fun v41 =>
k [s0, s1, s4, s5, s6, s7, s8, s9, s10, s17, v41, s19, s43, s62, s69, s101] H : R))
noncomputable def r27_7 (k : KT R) : KT R := fun fr H => opn 16 fr (fun s0 s1 s4 s5 s6 s7 s8 s9 s10 s17 s18 s19 s43 s62 s69 s101 => 
(qG s7 false (fun k => k s8 H) H fun v36 H =>
qG s7 false (fun k => qIaA 8 1 s6 v36 fun v => k v H) H fun v37 H =>
qG s7 false (fun k => qLd v37 H fun v => k v H) H fun v38 H =>
qG s7 false (fun k => qGtr X 3 v38 (.int .i64 0) fun v => k v H) H fun v39 H =>
qPick s7 (.bool true) v39 fun v40 =>
k [s0, s1, s4, s5, s6, v40, s8, s9, s10, s17, s18, s19, s43, s62, s69, s101] H : R))
noncomputable def r27_6 (k : KT R) : KT R := fun fr H => opn 16 fr (fun s0 s1 s4 s5 s6 s7 s8 s9 s10 s17 s18 s19 s43 s62 s69 s101 => 
(qIa 1 s1 s8 fun v24 =>
qLd v24 H fun v25 =>
qNc s0 fun v27 =>
qFa 0 v27 fun v28 =>
qLd v28 H fun v29 =>
qMul X 3 (.int .i64 50) v29 fun v30 =>
qO (foldO min2 v25 [v30]) fun v31 =>
qO (foldO max2 (.int .i64 0) [v31]) fun v32 =>
qIaA 8 1 s6 s8 fun v33 =>
qSt 1 v33 v32 H fun _ H =>
k [s0, s1, s4, s5, s6, s7, s8, s9, s10, s17, s18, s19, s43, s62, s69, s101] H : R))
noncomputable def r27_5 (k : KT R) : KT R := fun fr H => opn 16 fr (fun s0 s1 s4 s5 s6 s7 s8 s9 s10 s17 s18 s19 s43 s62 s69 s101 => 
(k [s0, s1, s4, s5, s6, s7, s18, s9, s10, s17, s18, s19, s43, s62, s69, s101] H : R))
noncomputable def r27_4 (k : KT R) : KT R := fun fr H => opn 16 fr (fun s0 s1 s4 s5 s6 s7 s8 s9 s10 s17 s18 s19 s43 s62 s69 s101 => 
(qLss X 3 s18 s17 fun v19 =>
k [s0, s1, s4, s5, s6, s7, s8, s9, s10, s17, s18, v19, s43, s62, s69, s101] H : R))
noncomputable def l27_12 (k9 : KT R) : KT R → KT R := fun k10 => (r27_4 (qCd (sel 11) (fun k12 => k12) (fun _ => k9) (qBl (fun k11 => (r27_5 (r27_6 (r27_7 k11)))) (r27_8 k10))))
noncomputable def r27_3 (k : KT R) : KT R := fun fr H => opn 16 fr (fun s0 s1 s4 s5 s6 s7 s8 s9 s10 s17 s18 s19 s43 s62 s69 s101 => 
(qNc s0 fun v12 =>
qFa 1 v12 fun v13 =>
qLd v13 H fun v14 =>
qLenL s1 fun v16 =>
qO (foldO min2 v14 [v16]) fun v17 =>
k [s0, s1, s4, s5, s6, s7, s8, s9, s10, v17, (.int .i64 0), s19, s43, s62, s69, s101] H : R))
noncomputable def r27_2 (k : KT R) : KT R := fun fr H => opn 16 fr (fun s0 s1 s4 s5 s6 s7 s8 s9 s10 s17 s18 s19 s43 s62 s69 s101 => 
(k [s0, s1, s4, s5, s6, (.bool false), s8, s9, s10, s17, s18, s19, s43, s62, s69, s101] H : R))
noncomputable def r27_1 (k : KT R) : KT R := fun fr H => opn 16 fr (fun s0 s1 s4 s5 s6 s7 s8 s9 s10 s17 s18 s19 s43 s62 s69 s101 => 
(qNew (.cells z90) .ptr H fun v6 H =>
k [s0, s1, s4, s5, v6, s7, s8, s9, s10, s17, s18, s19, s43, s62, s69, s101] H : R))
noncomputable def r27_0 (k : KT R) : KT R := fun fr H => opn 16 fr (fun s0 s1 s4 s5 s6 s7 s8 s9 s10 s17 s18 s19 s43 s62 s69 s101 => 
(k [s0, s1, (.int .i64 0), (.bool false), s6, s7, s8, s9, s10, s17, s18, s19, s43, s62, s69, s101] H : R))
noncomputable def c27 (C : CallF) (l0 : List AV) (H : AH) (k : AV → AH → R) : R := opn 2 l0 (fun x0 x1 => (qFn (fun kr => (r27_0 (r27_1 (r27_2 (r27_3 (qBl (fun k9 => (qLoop (l27_12 k9))) (r27_9 (qCd (sel 12) (fun _ => (r27_10 (r27_11 kr))) (fun k8 => k8) (qBl (fun k1 => (qLoop (l27_7 C kr))) kr)))))))))
(fun fr H => k (.tup [(sel 2 fr), (sel 3 fr)]) H) [x0, x1, Aes.undef, Aes.undef, Aes.undef, Aes.undef, Aes.undef, Aes.undef, Aes.undef, Aes.undef, Aes.undef, Aes.undef, Aes.undef, Aes.undef, Aes.undef, Aes.undef] H : R))
/- (*refectory/refectoryref24.S).Next -/
noncomputable def r28_24 (C : CallF) (k : KT R) : KT R := fun fr H => opn 16 fr (fun s0 s1 s4 s5 s6 s7 s8 s9 s10 s11 s27 s52 s55 s72 s85 s126 => 
(qRes (C 48 [s0] H) fun v165 H =>
k [s0, s1, s4, s5, s6, s7, s8, s9, s10, s11, s27, s52, s55, s72, s85, s126] H : R))
noncomputable def r28_23 (k : KT R) : KT R := fun fr H => opn 16 fr (fun s0 s1 s4 s5 s6 s7 s8 s9 s10 s11 s27 s52 s55 s72 s85 s126 => 
(k [s0, s1, s11, (.bool true), s6, s7, s8, s9, s10, s11, s27, s52, s55, s72, s85, s126] H : R))
noncomputable def r28_22 (k : KT R) : KT R := fun fr H => opn 16 fr (fun s0 s1 s4 s5 s6 s7 s8 s9 s10 s11 s27 s52 s55 s72 s85 s126 => 
(qNc s0 fun v128 =>
qFa 2 v128 fun v129 =>
qLd v129 H fun v130 =>
qNc s0 fun v133 =>
qFa 3 v133 fun v134 =>
qLd v134 H fun v135 =>
qNc s0 fun v138 =>
qFa 2 v138 fun v139 =>
qLd v139 H fun v140 =>
qIa 1 v140 s11 fun v142 =>
qLd v142 H fun v143 =>
qIa 1 s7 s11 fun v146 =>
qLd v146 H fun v147 =>
qSub X 3 v143 v147 fun v148 =>
qNc s0 fun v150 =>
qFa 3 v150 fun v151 =>
qLd v151 H fun v152 =>
qIa 1 v152 s11 fun v154 =>
qLd v154 H fun v155 =>
qIa 1 s7 s11 fun v158 =>
qLd v158 H fun v159 =>
qAdd X 3 v155 v159 fun v160 =>
qIa 1 v130 s11 fun v161 =>
qSt 1 v161 v148 H fun _ H =>
qIa 1 v135 s11 fun v162 =>
qSt 1 v162 v160 H fun _ H =>
k [s0, s1, s4, s5, s6, s7, s8, s9, s10, s11, s27, s52, s55, s72, s85, s126] H : R))
noncomputable def r28_21 (k : KT R) : KT R := fun fr H => opn 16 fr (fun s0 s1 s4 s5 s6 s7 s8 s9 s10 s11 s27 s52 s55 s72 s85 s126 => 
(qNc s0 fun v116 =>
qFa 2 v116 fun v117 =>
qLd v117 H fun v118 =>
qIa 1 v118 s11 fun v120 =>
qLd v120 H fun v121 =>
qIa 1 s7 s11 fun v124 =>
qLd v124 H fun v125 =>
qGeq X 3 v121 v125 fun v126 =>
k [s0, s1, s4, s5, s6, s7, s8, s9, s10, s11, s27, s52, s55, s72, s85, v126] H : R))
noncomputable def r28_20 (k : KT R) : KT R := fun fr H => opn 16 fr (fun s0 s1 s4 s5 s6 s7 s8 s9 s10 s11 s27 s52 s55 s72 s85 s126 => 
(qNc s0 fun v87 =>
qFa 2 v87 fun v88 =>
qLd v88 H fun v89 =>
qNc s0 fun v93 =>
qFa 2 v93 fun v94 =>
qLd v94 H fun v95 =>
qIa 1 v95 s11 fun v97 =>
qLd v97 H fun v98 =>
qNc s0 fun v100 =>
qFa 0 v100 fun v101 =>
qLd v101 H fun v102 =>
qNc s0 fun v104 =>
qFa 1 v104 fun v105 =>
qLd v105 H fun v106 =>
qIa 1 v106 s11 fun v108 =>
qLd v108 H fun v109 =>
qMul X 3 v102 v109 fun v110 =>
qAdd X 3 v98 v110 fun v111 =>
qIa 1 v89 s11 fun v112 =>
qSt 1 v112 v111 H fun _ H =>
qNc s0 fun v113 =>
qFa 5 v113 fun v114 =>
qSt 1 v114 (.bool true) H fun _ H =>
k [s0, s1, s4, s5, s6, s7, s8, s9, s10, s11, s27, s52, s55, s72, s85, s126] H : R))
noncomputable def r28_19 (k : KT R) : KT R := fun fr H => opn 16 fr (fun s0 s1 s4 s5 s6 s7 s8 s9 s10 s11 s27 s52 s55 s72 s85 s126 => 
(qNc s0 fun v82 =>
qFa 5 v82 fun v83 =>
qLd v83 H fun v84 =>
qNot v84 fun v85 =>
k [s0, s1, s4, s5, s6, s7, s8, s9, s10, s11, s27, s52, s55, s72, v85, s126] H : R))
noncomputable def r28_18 (C : CallF) (k : KT R) : KT R := fun fr H => opn 16 fr (fun s0 s1 s4 s5 s6 s7 s8 s9 s10 s11 s27 s52 s55 s72 s85 s126 => 
(qRes (C 48 [s0] H) fun v80 H =>
k [s0, s1, s4, s5, s6, s7, s8, s9, s10, s11, s27, s52, s55, s72, s85, s126] H : R))
noncomputable def r28_17 (k : KT R) : KT R := fun fr H => opn 16 fr (fun s0 s1 s4 s5 s6 s7 s8 s9 s10 s11 s27 s52 s55 s72 s85 s126 => 
(qNc s0 fun v74 =>
qFa 2 v74 fun v75 =>
qLd v75 H fun v76 =>
qIa 1 v76 s11 fun v78 =>
qSt 1 v78 (.int .i64 0) H fun _ H =>
k [s0, s1, s4, s5, s6, s7, s8, s9, s10, s11, s27, s52, s55, s72, s85, s126] H : R))
noncomputable def r28_16 (k : KT R) : KT R := fun fr H => opn 16 fr (fun s0 s1 s4 s5 s6 s7 s8 s9 s10 s11 s27 s52 s55 s72 s85 s126 => 
(qIa 1 s7 s11 fun v70 =>
qLd v70 H fun v71 =>
qLeq X 3 v71 (.int .i64 0) fun v72 =>
k [s0, s1, s4, s5, s6, s7, s8, s9, s10, s11, s27, s52, s55, v72, s85, s126] H : R))
noncomputable def r28_15 (k : KT R) : KT R := fun fr H => opn 16 fr (fun s0 s1 s4 s5 s6 s7 s8 s9 s10 s11 s27 s52 s55 s72 s85 s126 => 
(qNc s0 fun v65 =>
qFa 4 v65 fun v66 =>
qLd v66 H fun v67 =>
k [s0, s1, s4, s5, s6, s7, s8, s9, s10, v67, s27, s52, s55, s72, s85, s126] H : R))
noncomputable def l28_6 (C : CallF) (kr : KT R) : KT R → KT R := fun k2 => (qBl (fun k3 => (r28_15 (r28_16 (qCd (sel 13) (fun _ => (r28_17 (r28_18 C k3))) (fun k6 => k6) (r28_19 (qCd (sel 14) (fun k5 => (r28_20 k5)) (fun k5 => k5) (r28_21 (qCd (sel 15) (fun _ => (r28_22 (r28_23 kr))) (fun k4 => k4) (r28_24 C k3))))))))) k2)
noncomputable def r28_14 (k : KT R) : KT R := fun fr H => opn 16 fr (fun s0 s1 s4 s5 s6 s7 s8 s9 s10 s11 s27 s52 s55 s72 s85 s126 => 
(k [s0, s1, (.int .i64 0), (.bool false), s6, s7, s8, s9, s10, s11, s27, s52, s55, s72, s85, s126] H : R))
noncomputable def r28_12 (k : KT R) : KT R := fun fr H => opn 16 fr (fun s0 s1 s4 s5 s6 s7 s8 s9 s10 s11 s27 s52 s55 s72 s85 s126 => 
(qAdd X 3 s10 (.int .i64 1) fun v57 =>
k [s0, s1, s4, s5, s6, s7, s8, s9, v57, s11, s27, s52, s55, s72, s85, s126] H : R))
noncomputable def r28_13 (k : KT R) : KT R := fun fr H => opn 16 fr (fun s0 s1 s4 s5 s6 s7 s8 s9 s10 s11 s27 s52 s55 s72 s85 s126 => 
(qNc s0 fun v59 =>
qFa 2 v59 fun v60 =>
qLd v60 H fun v61 =>
qIa 1 v61 s10 fun v63 =>
qSt 1 v63 (.int .i64 0) H fun _ H =>
k [s0, s1, s4, s5, s6, s7, s8, s9, s10, s11, s27, s52, s55, s72, s85, s126] H : R))
noncomputable def r28_11 (k : KT R) : KT R := fun fr H => opn 16 fr (fun s0 s1 s4 s5 s6 s7 s8 s9 s10 s11 s27 s52 s55 s72 s85 s126 => 
(qLss X 3 s10 s6 fun v55 =>
k [s0, s1, s4, s5, s6, s7, s8, s9, s10, s11, s27, s52, v55, s72, s85, s126] H : R))
noncomputable def l28_11 (k8 : KT R) : KT R → KT R := fun k9 => (r28_11 (qCd (sel 12) (fun k11 => k11) (fun _ => k8) (qBl (fun k10 => (r28_13 k10)) (r28_12 k9))))
noncomputable def r28_10 (k : KT R) : KT R := fun fr H => opn 16 fr (fun s0 s1 s4 s5 s6 s7 s8 s9 s10 s11 s27 s52 s55 s72 s85 s126 => 
(k [s0, s1, s4, s5, s6, s7, s8, s9, (.int .i64 0), s11, s27, s52, s55, s72, s85, s126] H : R))
noncomputable def r28_9 (k : KT R) : KT R := fun fr H => opn 16 fr (fun s0 s1 s4 s5 s6 s7 s8 s9 s10 s11 s27 s52 s55 s72 s85 s126 => 
(qNot s8 fun v52 =>
k [s0, s1, s4, s5, s6, s7, s8, s9, s10, s11, s27, v52, s55, s72, s85, s126] H : R))
noncomputable def r28_6 (k : KT R) : KT R := fun fr H => opn 16 fr (fun s0 s1 s4 s5 s6 s7 s8 s9 s10 s11 s27 s52 s55 s72 s85 s126 => 
(qAdd X 3 s9 (.int .i64 1) fun v29 =>
k [s0, s1, s4, s5, s6, s7, s8, v29, s10, s11, s27, s52, s55, s72, s85, s126] H : R))
noncomputable def r28_8 (k : KT R) : KT R := fun fr H => opn 16 fr (fun s0 s1 s4 s5 s6 s7 s8 s9 s10 s11 s27 s52 s55 s72 s85 s126 => 
(qG s8 false (fun k => k s7 H) H fun v45 H =>
qG s8 false (fun k => k s9 H) H fun v46 H =>
qG s8 false (fun k => qIa 1 v45 v46 fun v => k v H) H fun v47 H =>
qG s8 false (fun k => qLd v47 H fun v => k v H) H fun v48 H =>
qG s8 false (fun k => qGtr X 3 v48 (.int .i64 0) fun v => k v H) H fun v49 H =>
qPick s8 (.bool true) v49 fun v50 =>
k [s0, s1, s4, s5, s6, s7, v50, s9, s10, s11, s27, s52, s55, s72, s85, s126] H : R))
noncomputable def r28_7 (k : KT R) : KT R := fun fr H => opn 16 fr (fun s0 s1 s4 s5 s6 s7 s8 s9 s10 s11 s27 s52 s55 s72 s85 s126 => 
(qIa 1 s1 s9 fun v34 =>
qLd v34 H fun v35 =>
qNc s0 fun v37 =>
qFa 0 v37 fun v38 =>
qLd v38 H fun v39 =>
qMul X 3 (.int .i64 50) v39 fun v40 =>
qO (foldO min2 v35 [v40]) fun v41 =>
qIa 1 s7 s9 fun v42 =>
qSt 1 v42 v41 H fun _ H =>
k [s0, s1, s4, s5, s6, s7, s8, s9, s10, s11, s27, s52, s55, s72, s85, s126] H : R))
noncomputable def r28_5 (k : KT R) : KT R := fun fr H => opn 16 fr (fun s0 s1 s4 s5 s6 s7 s8 s9 s10 s11 s27 s52 s55 s72 s85 s126 => 
(qLss X 3 s9 s6 fun v21 =>
qG v21 true (fun k => k s9 H) H fun v23 H =>
qG v21 true (fun k => k s1 H) H fun v24 H =>
qG v21 true (fun k => qLenL v24 fun v => k v H) H fun v25 H =>
qG v21 true (fun k => qLss X 3 v23 v25 fun v => k v H) H fun v26 H =>
qPick v21 v26 (.bool false) fun v27 =>
k [s0, s1, s4, s5, s6, s7, s8, s9, s10, s11, v27, s52, s55, s72, s85, s126] H : R))
noncomputable def l28_15 (k12 : KT R) : KT R → KT R := fun k13 => (r28_5 (qCd (sel 10) (fun k15 => k15) (fun _ => k12) (qBl (fun k14 => (r28_7 (r28_8 k14))) (r28_6 k13))))
noncomputable def r28_4 (k : KT R) : KT R := fun fr H => opn 16 fr (fun s0 s1 s4 s5 s6 s7 s8 s9 s10 s11 s27 s52 s55 s72 s85 s126 => 
(k [s0, s1, s4, s5, s6, s7, s8, (.int .i64 0), s10, s11, s27, s52, s55, s72, s85, s126] H : R))
noncomputable def r28_3 (k : KT R) : KT R := fun fr H => opn 16 fr (fun s0 s1 s4 s5 s6 s7 s8 s9 s10 s11 s27 s52 s55 s72 s85 s126 => 
(k [s0, s1, s4, s5, s6, s7, (.bool false), s9, s10, s11, s27, s52, s55, s72, s85, s126] H : R))
noncomputable def r28_2 (k : KT R) : KT R := fun fr H => opn 16 fr (fun s0 s1 s4 s5 s6 s7 s8 s9 s10 s11 s27 s52 s55 s72 s85 s126 => 
(qMkS z3 1 8 s6 s6 H fun v18 H =>
k [s0, s1, s4, s5, s6, v18, s8, s9, s10, s11, s27, s52, s55, s72, s85, s126] H : R))
noncomputable def r28_1 (k : KT R) : KT R := fun fr H => opn 16 fr (fun s0 s1 s4 s5 s6 s7 s8 s9 s10 s11 s27 s52 s55 s72 s85 s126 => 
(qNc s0 fun v13 =>
qFa 1 v13 fun v14 =>
qLd v14 H fun v15 =>
qLenL v15 fun v16 =>
k [s0, s1, s4, s5, v16, s7, s8, s9, s10, s11, s27, s52, s55, s72, s85, s126] H : R))
noncomputable def r28_0 (k : KT R) : KT R := fun fr H => opn 16 fr (fun s0 s1 s4 s5 s6 s7 s8 s9 s10 s11 s27 s52 s55 s72 s85 s126 => 
(k [s0, s1, (.int .i64 0), (.bool false), s6, s7, s8, s9, s10, s11, s27, s52, s55, s72, s85, s126] H : R))
noncomputable def c28 (C : CallF) (l0 : List AV) (H : AH) (k : AV → AH → R) : R := opn 2 l0 (fun x0 x1 => (qFn (fun kr => (r28_0 (r28_1 (r28_2 (r28_3 (r28_4 (qBl (fun k12 => (qLoop (l28_15 k12))) (r28_9 (qCd (sel 11) (fun _ => (r28_10 (qBl (fun k8 => (qLoop (l28_11 k8))) (r28_14 kr)))) (fun k7 => k7) (qBl (fun k1 => (qLoop (l28_6 C kr))) kr))))))))))
(fun fr H => k (.tup [(sel 2 fr), (sel 3 fr)]) H) [x0, x1, Aes.undef, Aes.undef, Aes.undef, Aes.undef, Aes.undef, Aes.undef, Aes.undef, Aes.undef, Aes.undef, Aes.undef, Aes.undef, Aes.undef, Aes.undef, Aes.undef] H : R))
/- refectory/refectorylaw00.SameInts -/
noncomputable def r29_8 (k : KT R) : KT R := fun fr H => opn 7 fr (fun s0 s1 s4 s5 s10 s14 s25 => 
(k [s0, s1, (.bool true), s5, s10, s14, s25] H : R))
noncomputable def r29_5 (k : KT R) : KT R := fun fr H => opn 7 fr (fun s0 s1 s4 s5 s10 s14 s25 => 
(qAdd X 3 s5 (.int .i64 1) fun v16 =>
k [s0, s1, s4, v16, s10, s14, s25] H : R))
noncomputable def r29_7 (k : KT R) : KT R := fun fr H => opn 7 fr (fun s0 s1 s4 s5 s10 s14 s25 => 
(k [s0, s1, (.bool false), s5, s10, s14, s25] H : R))
noncomputable def r29_6 (k : KT R) : KT R := fun fr H => opn 7 fr (fun s0 s1 s4 s5 s10 s14 s25 => 
(qIa 1 s0 s5 fun v19 =>
qLd v19 H fun v20 =>
qIa 1 s1 s5 fun v23 =>
qLd v23 H fun v24 =>
qNeq X 3 v20 v24 fun v25 =>
k [s0, s1, s4, s5, s10, s14, v25] H : R))
noncomputable def r29_4 (k : KT R) : KT R := fun fr H => opn 7 fr (fun s0 s1 s4 s5 s10 s14 s25 => 
(qLenL s0 fun v13 =>
qLss X 3 s5 v13 fun v14 =>
k [s0, s1, s4, s5, s10, v14, s25] H : R))
noncomputable def l29_5 (k1 : KT R) (kr : KT R) : KT R → KT R := fun k2 => (r29_4 (qCd (sel 5) (fun k5 => k5) (fun _ => k1) (qBl (fun k3 => (r29_6 (qCd (sel 6) (fun _ => (r29_7 kr)) (fun k4 => k4) k3))) (r29_5 k2))))
noncomputable def r29_3 (k : KT R) : KT R := fun fr H => opn 7 fr (fun s0 s1 s4 s5 s10 s14 s25 => 
(k [s0, s1, s4, (.int .i64 0), s10, s14, s25] H : R))
noncomputable def r29_2 (k : KT R) : KT R := fun fr H => opn 7 fr (fun s0 s1 s4 s5 s10 s14 s25 => 
(k [s0, s1, (.bool false), s5, s10, s14, s25] H : R))
noncomputable def r29_1 (k : KT R) : KT R := fun fr H => opn 7 fr (fun s0 s1 s4 s5 s10 s14 s25 => 
(qLenL s0 fun v7 =>
qLenL s1 fun v9 =>
qNeq X 3 v7 v9 fun v10 =>
k [s0, s1, s4, s5, v10, s14, s25] H : R))
noncomputable def r29_0 (k : KT R) : KT R := fun fr H => opn 7 fr (fun s0 s1 s4 s5 s10 s14 s25 => 
(k [s0, s1, (.bool false), s5, s10, s14, s25] H : R))
noncomputable def c29 (C : CallF) (l0 : List AV) (H : AH) (k : AV → AH → R) : R := opn 2 l0 (fun x0 x1 => (qFn (fun kr => (r29_0 (r29_1 (qCd (sel 4) (fun _ => (r29_2 kr)) (fun k6 => k6) (r29_3 (qBl (fun k1 => (qLoop (l29_5 k1 kr))) (r29_8 kr)))))))
(fun fr H => k (sel 2 fr) H) [x0, x1, Aes.undef, Aes.undef, Aes.undef, Aes.undef, Aes.undef] H : R))
/- (*refectory/share.Share).Served -/
noncomputable def r30_1 (k : KT R) : KT R := fun fr H => opn 2 fr (fun s0 s2 => 
(qNc s0 fun v4 =>
qFa 18 v4 fun v5 =>
qNc s0 fun v7 =>
qFa 1 v7 fun v8 =>
qLd v8 H fun v9 =>
qSlc Try.t90.desc 1 v5 none (some v9) none fun v10 =>
qApp 1 8 (.sl [] .nil) v10 false H fun v11 H =>
k [s0, v11] H : R))
noncomputable def r30_0 (k : KT R) : KT R := fun fr H => opn 2 fr (fun s0 s2 => 
(k [s0, (.sl [] .nil)] H : R))
noncomputable def c30 (C : CallF) (l0 : List AV) (H : AH) (k : AV → AH → R) : R := opn 1 l0 (fun x0 => (qFn (fun kr => (r30_0 (r30_1 kr)))
(fun fr H => k (sel 1 fr) H) [x0, Aes.undef] H : R))
/- (*refectory/share.Share).Credit -/
noncomputable def r31_1 (k : KT R) : KT R := fun fr H => opn 2 fr (fun s0 s2 => 
(qNc s0 fun v4 =>
qFa 10 v4 fun v5 =>
qNc s0 fun v7 =>
qFa 1 v7 fun v8 =>
qLd v8 H fun v9 =>
qSlc Try.t90.desc 1 v5 none (some v9) none fun v10 =>
qApp 1 8 (.sl [] .nil) v10 false H fun v11 H =>
k [s0, v11] H : R))
noncomputable def r31_0 (k : KT R) : KT R := fun fr H => opn 2 fr (fun s0 s2 => 
(k [s0, (.sl [] .nil)] H : R))
noncomputable def c31 (C : CallF) (l0 : List AV) (H : AH) (k : AV → AH → R) : R := opn 1 l0 (fun x0 => (qFn (fun kr => (r31_0 (r31_1 kr)))
(fun fr H => k (sel 1 fr) H) [x0, Aes.undef] H : R))
/- refectory/fill.Finish -/
noncomputable def r32_5 (k : KT R) : KT R := fun fr H => opn 7 fr (fun s0 s2 s3 s4 s5 s6 s16 => 
(qLdA 4 s5 H fun v18 =>
qNc s4 fun v20 =>
qFa 0 v20 fun v21 =>
qLd v21 H fun v22 =>
qSt 4 s2 v18 H fun _ H =>
qLd v21 H fun w => qSame v22 w (k [s0, s2, v22, s4, s5, s6, s16] H) : R))
noncomputable def r32_4 (C : CallF) (k : KT R) : KT R := fun fr H => opn 7 fr (fun s0 s2 s3 s4 s5 s6 s16 => 
(qRes (C 50 [] H) fun v17 H =>
qSt 4 s5 v17 H fun _ H =>
k [s0, s2, s3, s4, s5, s6, s16] H : R))
noncomputable def r32_3 (k : KT R) : KT R := fun fr H => opn 7 fr (fun s0 s2 s3 s4 s5 s6 s16 => 
(qNot s6 fun v16 =>
k [s0, s2, s3, s4, s5, s6, v16] H : R))
noncomputable def r32_2 (C : CallF) (k : KT R) : KT R := fun fr H => opn 7 fr (fun s0 s2 s3 s4 s5 s6 s16 => 
(qRes (C 49 [s4, s0, (.sl [] .nil)] H) fun v12 H =>
qExt v12 0 fun v13 =>
qExt v12 1 fun v14 =>
qNew (.cells z58) .ptr H fun v5 H =>
qSt 4 v5 v13 H fun _ H =>
k [s0, s2, s3, s4, v5, v14, s16] H : R))
noncomputable def r32_1 (k : KT R) : KT R := fun fr H => opn 7 fr (fun s0 s2 s3 s4 s5 s6 s16 => 
(qBld z96 [] fun v7 =>
qBox v7 H fun v8 H =>
k [s0, s2, s3, v8, s5, s6, s16] H : R))
noncomputable def r32_0 (k : KT R) : KT R := fun fr H => opn 7 fr (fun s0 s2 s3 s4 s5 s6 s16 => 
(qNew (.cells z58) .ptr H fun v2 H =>
k [s0, v2, (.sl [] .nil), s4, s5, s6, s16] H : R))
noncomputable def c32 (C : CallF) (l0 : List AV) (H : AH) (k : AV → AH → R) : R := opn 1 l0 (fun x0 => (qFn (fun kr => (r32_0 (r32_1 (r32_2 C (r32_3 (qCd (sel 6) (fun k1 => (r32_4 C k1)) (fun k1 => k1) (r32_5 kr)))))))
(fun fr H => qPtr (sel 1 fr) (qLdA 4 (sel 1 fr) H fun w0 => k (.tup [w0, (sel 2 fr)]) H)) [x0, Aes.undef, Aes.undef, Aes.undef, Aes.undef, Aes.undef, Aes.undef] H : R))
/- refectory/refectorylaw19.awake -/
noncomputable def r33_2 (k : KT R) : KT R := fun fr H => opn 3 fr (fun s0 s1 s2 => 
(qFa 0 s1 fun v10 =>
qLd v10 H fun v11 =>
qEql X 3 v11 (.int .i64 1) fun v12 =>
qG v12 true (fun k => k s2 H) H fun v14 H =>
qG v12 true (fun k => qLenL v14 fun v => k v H) H fun v15 H =>
qG v12 true (fun k => qEql X 3 v15 (.int .i64 1) fun v => k v H) H fun v16 H =>
qPick v12 v16 (.bool false) fun v17 =>
qG v17 true (fun k => k s2 H) H fun v19 H =>
qG v17 true (fun k => qIa 2 v19 (.int .i64 0) fun v => k v H) H fun v20 H =>
qG v17 true (fun k => qFa 0 v20 fun v => k v H) H fun v21 H =>
qG v17 true (fun k => qLd v21 H fun v => k v H) H fun v22 H =>
qG v17 true (fun k => qEql X 9 v22 (.str [78,85,76,76]) fun v => k v H) H fun v23 H =>
qPick v17 v23 (.bool false) fun v24 =>
qG v24 true (fun k => k s2 H) H fun v26 H =>
qG v24 true (fun k => qIa 2 v26 (.int .i64 0) fun v => k v H) H fun v27 H =>
qG v24 true (fun k => qFa 1 v27 fun v => k v H) H fun v28 H =>
qG v24 true (fun k => qLd v28 H fun v => k v H) H fun v29 H =>
qG v24 true (fun k => qLenL v29 fun v => k v H) H fun v30 H =>
qG v24 true (fun k => qEql X 3 v30 (.int .i64 1) fun v => k v H) H fun v31 H =>
qPick v24 v31 (.bool false) fun v32 =>
qG v32 true (fun k => k s2 H) H fun v34 H =>
qG v32 true (fun k => qIa 2 v34 (.int .i64 0) fun v => k v H) H fun v35 H =>
qG v32 true (fun k => qFa 1 v35 fun v => k v H) H fun v36 H =>
qG v32 true (fun k => qLd v36 H fun v => k v H) H fun v37 H =>
qG v32 true (fun k => qIa 2 v37 (.int .i64 0) fun v => k v H) H fun v38 H =>
qG v32 true (fun k => qFa 0 v38 fun v => k v H) H fun v39 H =>
qG v32 true (fun k => qLd v39 H fun v => k v H) H fun v40 H =>
qG v32 true (fun k => qEql X 9 v40 (.str [97]) fun v => k v H) H fun v41 H =>
qPick v32 v41 (.bool false) fun v42 =>
k [v42, s1, s2] H : R))
noncomputable def r33_1 (C : CallF) (k : KT R) : KT R := fun fr H => opn 3 fr (fun s0 s1 s2 => 
(qBld z54 [(0, 1, (.str [73,110,116])), (1, 1, (.str [33]))] fun v4 =>
qBld z61 [(0, 1, (.int .i64 2)), (1, 1, (.str [97])), (2, 2, v4)] fun v5 =>
qRows z61 1 [(0, v5)] fun v6 =>
qRes (C 32 [v6] H) fun v7 H =>
qExt v7 0 fun v8 =>
qExt v7 1 fun v9 =>
qNew (.cells z58) .ptr H fun v1 H =>
qSt 4 v1 v8 H fun _ H =>
k [s0, v1, v9] H : R))
noncomputable def r33_0 (k : KT R) : KT R := fun fr H => opn 3 fr (fun s0 s1 s2 => 
(k [(.bool false), s1, s2] H : R))
noncomputable def c33 (C : CallF) (l0 : List AV) (H : AH) (k : AV → AH → R) : R := opn 0 l0 ((qFn (fun kr => (r33_0 (r33_1 C (r33_2 kr))))
(fun fr H => k (sel 0 fr) H) [Aes.undef, Aes.undef, Aes.undef] H : R))
/- refectory/refectoryref02.Get -/
noncomputable def r34_6 (k : KT R) : KT R := fun fr H => opn 8 fr (fun s0 s1 s2 s4 s5 s6 s23 s32 => 
(qBld z58 [] fun v38 =>
qSt 4 s4 v38 H fun _ H =>
k [s0, s1, s2, s4, (.bool false), s6, s23, s32] H : R))
noncomputable def r34_3 (k : KT R) : KT R := fun fr H => opn 8 fr (fun s0 s1 s2 s4 s5 s6 s23 s32 => 
(qAdd X 3 s6 (.int .i64 1) fun v25 =>
k [s0, s1, s2, s4, s5, v25, s23, s32] H : R))
noncomputable def r34_5 (k : KT R) : KT R := fun fr H => opn 8 fr (fun s0 s1 s2 s4 s5 s6 s23 s32 => 
(qFa 3 s2 fun v33 =>
qLd v33 H fun v34 =>
qIa 4 v34 s6 fun v36 =>
qLdA 4 v36 H fun v37 =>
qSt 4 s4 v37 H fun _ H =>
k [s0, s1, s2, s4, (.bool true), s6, s23, s32] H : R))
noncomputable def r34_4 (k : KT R) : KT R := fun fr H => opn 8 fr (fun s0 s1 s2 s4 s5 s6 s23 s32 => 
(qFa 2 s2 fun v26 =>
qLd v26 H fun v27 =>
qIa 1 v27 s6 fun v29 =>
qLd v29 H fun v30 =>
qEql X 9 v30 s1 fun v32 =>
k [s0, s1, s2, s4, s5, s6, s23, v32] H : R))
noncomputable def r34_2 (k : KT R) : KT R := fun fr H => opn 8 fr (fun s0 s1 s2 s4 s5 s6 s23 s32 => 
(qFa 0 s2 fun v7 =>
qLd v7 H fun v8 =>
qEql X 3 v8 (.int .i64 8) fun v9 =>
qG v9 true (fun k => k s6 H) H fun v11 H =>
qG v9 true (fun k => qFa 2 s2 fun v => k v H) H fun v12 H =>
qG v9 true (fun k => qLd v12 H fun v => k v H) H fun v13 H =>
qG v9 true (fun k => qLenL v13 fun v => k v H) H fun v14 H =>
qG v9 true (fun k => qLss X 3 v11 v14 fun v => k v H) H fun v15 H =>
qPick v9 v15 (.bool false) fun v16 =>
qG v16 true (fun k => k s6 H) H fun v18 H =>
qG v16 true (fun k => qFa 3 s2 fun v => k v H) H fun v19 H =>
qG v16 true (fun k => qLd v19 H fun v => k v H) H fun v20 H =>
qG v16 true (fun k => qLenL v20 fun v => k v H) H fun v21 H =>
qG v16 true (fun k => qLss X 3 v18 v21 fun v => k v H) H fun v22 H =>
qPick v16 v22 (.bool false) fun v23 =>
k [s0, s1, s2, s4, s5, s6, v23, s32] H : R))
noncomputable def l34_5 (k1 : KT R) (kr : KT R) : KT R → KT R := fun k2 => (r34_2 (qCd (sel 6) (fun k5 => k5) (fun _ => k1) (qBl (fun k3 => (r34_4 (qCd (sel 7) (fun _ => (r34_5 kr)) (fun k4 => k4) k3))) (r34_3 k2))))
noncomputable def r34_1 (k : KT R) : KT R := fun fr H => opn 8 fr (fun s0 s1 s2 s4 s5 s6 s23 s32 => 
(k [s0, s1, s2, s4, s5, (.int .i64 0), s23, s32] H : R))
noncomputable def r34_0 (k : KT R) : KT R := fun fr H => opn 8 fr (fun s0 s1 s2 s4 s5 s6 s23 s32 => 
(qBox s0 H fun v2 H =>
qNew (.cells z58) .ptr H fun v4 H =>
k [s0, s1, v2, v4, (.bool false), s6, s23, s32] H : R))
noncomputable def c34 (C : CallF) (l0 : List AV) (H : AH) (k : AV → AH → R) : R := opn 2 l0 (fun x0 x1 => (qFn (fun kr => (r34_0 (r34_1 (qBl (fun k1 => (qLoop (l34_5 k1 kr))) (r34_6 kr)))))
(fun fr H => qPtr (sel 3 fr) (qLdA 4 (sel 3 fr) H fun w0 => k (.tup [w0, (sel 4 fr)]) H)) [x0, x1, Aes.undef, Aes.undef, Aes.undef, Aes.undef, Aes.undef, Aes.undef] H : R))
/- refectory/refectorylaw19.few -/
noncomputable def r35_8 (k : KT R) : KT R := fun fr H => opn 7 fr (fun s0 s1 s4 s5 s12 s16 s60 => 
(k [s0, s1, (.bool true), s5, s12, s16, s60] H : R))
noncomputable def r35_5 (k : KT R) : KT R := fun fr H => opn 7 fr (fun s0 s1 s4 s5 s12 s16 s60 => 
(qAdd X 3 s5 (.int .i64 1) fun v18 =>
k [s0, s1, s4, v18, s12, s16, s60] H : R))
noncomputable def r35_7 (k : KT R) : KT R := fun fr H => opn 7 fr (fun s0 s1 s4 s5 s12 s16 s60 => 
(k [s0, s1, (.bool false), s5, s12, s16, s60] H : R))
noncomputable def r35_6 (C : CallF) (k : KT R) : KT R := fun fr H => opn 7 fr (fun s0 s1 s4 s5 s12 s16 s60 => 
(qIa 10 s0 s5 fun v21 =>
qFa 1 v21 fun v22 =>
qLd v22 H fun v23 =>
qLenS v23 fun v24 =>
qIa 10 s0 s5 fun v27 =>
qFa 8 v27 fun v28 =>
qLd v28 H fun v29 =>
qLenS v29 fun v30 =>
qAdd X 3 v24 v30 fun v31 =>
qIa 10 s0 s5 fun v34 =>
qFa 2 v34 fun v35 =>
qFa 1 v35 fun v36 =>
qLd v36 H fun v37 =>
qLenS v37 fun v38 =>
qAdd X 3 v31 v38 fun v39 =>
qGtr X 3 v39 (.int .i64 200) fun v40 =>
qG v40 false (fun k => k s0 H) H fun v42 H =>
qG v40 false (fun k => k s5 H) H fun v43 H =>
qG v40 false (fun k => qIa 10 v42 v43 fun v => k v H) H fun v44 H =>
qG v40 false (fun k => qFa 4 v44 fun v => k v H) H fun v45 H =>
qG v40 false (fun k => qLdA 4 v45 H fun v => k v H) H fun v46 H =>
qG v40 false (fun k => qRes (C 51 [v46, (.int .i64 12)] H) k) H fun v47 H =>
qG v40 false (fun k => qNot v47 fun v => k v H) H fun v48 H =>
qPick v40 (.bool true) v48 fun v49 =>
qG v49 false (fun k => k s0 H) H fun v51 H =>
qG v49 false (fun k => k s5 H) H fun v52 H =>
qG v49 false (fun k => qIa 10 v51 v52 fun v => k v H) H fun v53 H =>
qG v49 false (fun k => qFa 9 v53 fun v => k v H) H fun v54 H =>
qG v49 false (fun k => qLd v54 H fun v => k v H) H fun v55 H =>
qG v49 false (fun k => k s1 H) H fun v56 H =>
qG v49 false (fun k => qSub X 3 v56 (.int .i64 1) fun v => k v H) H fun v57 H =>
qG v49 false (fun k => qRes (C 35 [v55, v57] H) k) H fun v58 H =>
qG v49 false (fun k => qNot v58 fun v => k v H) H fun v59 H =>
qPick v49 (.bool true) v59 fun v60 =>
k [s0, s1, s4, s5, s12, s16, v60] H : R))
noncomputable def r35_4 (k : KT R) : KT R := fun fr H => opn 7 fr (fun s0 s1 s4 s5 s12 s16 s60 => 
(qLenL s0 fun v15 =>
qLss X 3 s5 v15 fun v16 =>
k [s0, s1, s4, s5, s12, v16, s60] H : R))
noncomputable def l35_5 (C : CallF) (k1 : KT R) (kr : KT R) : KT R → KT R := fun k2 => (r35_4 (qCd (sel 5) (fun k5 => k5) (fun _ => k1) (qBl (fun k3 => (r35_6 C (qCd (sel 6) (fun _ => (r35_7 kr)) (fun k4 => k4) k3))) (r35_5 k2))))
noncomputable def r35_3 (k : KT R) : KT R := fun fr H => opn 7 fr (fun s0 s1 s4 s5 s12 s16 s60 => 
(k [s0, s1, s4, (.int .i64 0), s12, s16, s60] H : R))
noncomputable def r35_2 (k : KT R) : KT R := fun fr H => opn 7 fr (fun s0 s1 s4 s5 s12 s16 s60 => 
(k [s0, s1, (.bool false), s5, s12, s16, s60] H : R))
noncomputable def r35_1 (k : KT R) : KT R := fun fr H => opn 7 fr (fun s0 s1 s4 s5 s12 s16 s60 => 
(qEql X 3 s1 (.int .i64 0) fun v7 =>
qG v7 false (fun k => k s0 H) H fun v9 H =>
qG v7 false (fun k => qLenL v9 fun v => k v H) H fun v10 H =>
qG v7 false (fun k => qGtr X 3 v10 (.int .i64 12) fun v => k v H) H fun v11 H =>
qPick v7 (.bool true) v11 fun v12 =>
k [s0, s1, s4, s5, v12, s16, s60] H : R))
noncomputable def r35_0 (k : KT R) : KT R := fun fr H => opn 7 fr (fun s0 s1 s4 s5 s12 s16 s60 => 
(k [s0, s1, (.bool false), s5, s12, s16, s60] H : R))
noncomputable def c35 (C : CallF) (l0 : List AV) (H : AH) (k : AV → AH → R) : R := opn 2 l0 (fun x0 x1 => (qFn (fun kr => (r35_0 (r35_1 (qCd (sel 4) (fun _ => (r35_2 kr)) (fun k6 => k6) (r35_3 (qBl (fun k1 => (qLoop (l35_5 C k1 kr))) (r35_8 kr)))))))
(fun fr H => k (sel 2 fr) H) [x0, x1, Aes.undef, Aes.undef, Aes.undef, Aes.undef, Aes.undef] H : R))
/- refectory/refectorylaw19.Back -/
noncomputable def r36_6 (k : KT R) : KT R := fun fr H => opn 6 fr (fun s0 s1 s4 s5 s6 s14 => 
(k [s0, s1, s5, s5, s6, s14] H : R))
noncomputable def r36_4 (k : KT R) : KT R := fun fr H => opn 6 fr (fun s0 s1 s4 s5 s6 s14 => 
(qAdd X 3 s6 (.int .i64 1) fun v16 =>
k [s0, s1, s4, s5, v16, s14] H : R))
noncomputable def r36_5 (C : CallF) (k : KT R) : KT R := fun fr H => opn 6 fr (fun s0 s1 s4 s5 s6 s14 => 
(qIa 10 s0 s6 fun v20 =>
qFa 0 v20 fun v21 =>
qLd v21 H fun v22 =>
qIa 10 s0 s6 fun v25 =>
qFa 1 v25 fun v26 =>
qLd v26 H fun v27 =>
qIa 10 s0 s6 fun v30 =>
qFa 2 v30 fun v31 =>
qLdA 2 v31 H fun v32 =>
qIa 10 s0 s6 fun v35 =>
qFa 4 v35 fun v36 =>
qLdA 4 v36 H fun v37 =>
qIa 10 s0 s6 fun v40 =>
qFa 8 v40 fun v41 =>
qLd v41 H fun v42 =>
qIa 10 s0 s6 fun v45 =>
qFa 9 v45 fun v46 =>
qLd v46 H fun v47 =>
qSub X 3 s1 (.int .i64 1) fun v49 =>
qRes (C 36 [v47, v49] H) fun v50 H =>
qLd v41 H fun w => qSame v42 w (qLdA 4 v36 H fun w => qSame v37 w (qLdA 2 v31 H fun w => qSame v32 w (qLd v26 H fun w => qSame v27 w (qLd v21 H fun w => qSame v22 w (qBld z101 [(0, 1, v22), (1, 1, v27), (2, 2, v32), (4, 4, v37), (8, 1, v42), (9, 1, v50)] fun v51 =>
qRows z101 1 [(0, v51)] fun v52 =>
qApp 10 168 s5 v52 false H fun v53 H =>
k [s0, s1, s4, v53, s6, s14] H))))) : R))
noncomputable def r36_3 (k : KT R) : KT R := fun fr H => opn 6 fr (fun s0 s1 s4 s5 s6 s14 => 
(qLenL s0 fun v9 =>
qLss X 3 s6 v9 fun v10 =>
qG v10 true (fun k => k s1 H) H fun v12 H =>
qG v10 true (fun k => qGtr X 3 v12 (.int .i64 0) fun v => k v H) H fun v13 H =>
qPick v10 v13 (.bool false) fun v14 =>
k [s0, s1, s4, s5, s6, v14] H : R))
noncomputable def l36_4 (C : CallF) (k1 : KT R) : KT R → KT R := fun k2 => (r36_3 (qCd (sel 5) (fun k4 => k4) (fun _ => k1) (qBl (fun k3 => (r36_5 C k3)) (r36_4 k2))))
noncomputable def r36_2 (k : KT R) : KT R := fun fr H => opn 6 fr (fun s0 s1 s4 s5 s6 s14 => 
(k [s0, s1, s4, s5, (.int .i64 0), s14] H : R))
noncomputable def r36_1 (k : KT R) : KT R := fun fr H => opn 6 fr (fun s0 s1 s4 s5 s6 s14 => 
(k [s0, s1, s4, (.sl [] .nil), s6, s14] H : R))
noncomputable def r36_0 (k : KT R) : KT R := fun fr H => opn 6 fr (fun s0 s1 s4 s5 s6 s14 => 
(k [s0, s1, (.sl [] .nil), s5, s6, s14] H : R))
noncomputable def c36 (C : CallF) (l0 : List AV) (H : AH) (k : AV → AH → R) : R := opn 2 l0 (fun x0 x1 => (qFn (fun kr => (r36_0 (r36_1 (r36_2 (qBl (fun k1 => (qLoop (l36_4 C k1))) (r36_6 kr))))))
(fun fr H => k (sel 2 fr) H) [x0, x1, Aes.undef, Aes.undef, Aes.undef, Aes.undef] H : R))
/- refectory/refectoryref19.Finish -/
noncomputable def r37_5 (k : KT R) : KT R := fun fr H => opn 7 fr (fun s0 s2 s3 s4 s5 s6 s16 => 
(qLdA 4 s5 H fun v18 =>
qNc s4 fun v20 =>
qFa 0 v20 fun v21 =>
qLd v21 H fun v22 =>
qSt 4 s2 v18 H fun _ H =>
qLd v21 H fun w => qSame v22 w (k [s0, s2, v22, s4, s5, s6, s16] H) : R))
noncomputable def r37_4 (k : KT R) : KT R := fun fr H => opn 7 fr (fun s0 s2 s3 s4 s5 s6 s16 => 
(qBld z58 [(0, 1, (.int .i64 1))] fun v17 =>
qSt 4 s5 v17 H fun _ H =>
k [s0, s2, s3, s4, s5, s6, s16] H : R))
noncomputable def r37_3 (k : KT R) : KT R := fun fr H => opn 7 fr (fun s0 s2 s3 s4 s5 s6 s16 => 
(qNot s6 fun v16 =>
k [s0, s2, s3, s4, s5, s6, v16] H : R))
noncomputable def r37_2 (C : CallF) (k : KT R) : KT R := fun fr H => opn 7 fr (fun s0 s2 s3 s4 s5 s6 s16 => 
(qRes (C 52 [s4, s0, (.sl [] .nil)] H) fun v12 H =>
qExt v12 0 fun v13 =>
qExt v12 1 fun v14 =>
qNew (.cells z58) .ptr H fun v5 H =>
qSt 4 v5 v13 H fun _ H =>
k [s0, s2, s3, s4, v5, v14, s16] H : R))
noncomputable def r37_1 (k : KT R) : KT R := fun fr H => opn 7 fr (fun s0 s2 s3 s4 s5 s6 s16 => 
(qBld z104 [] fun v7 =>
qBox v7 H fun v8 H =>
k [s0, s2, s3, v8, s5, s6, s16] H : R))
noncomputable def r37_0 (k : KT R) : KT R := fun fr H => opn 7 fr (fun s0 s2 s3 s4 s5 s6 s16 => 
(qNew (.cells z58) .ptr H fun v2 H =>
k [s0, v2, (.sl [] .nil), s4, s5, s6, s16] H : R))
noncomputable def c37 (C : CallF) (l0 : List AV) (H : AH) (k : AV → AH → R) : R := opn 1 l0 (fun x0 => (qFn (fun kr => (r37_0 (r37_1 (r37_2 C (r37_3 (qCd (sel 6) (fun k1 => (r37_4 k1)) (fun k1 => k1) (r37_5 kr)))))))
(fun fr H => qPtr (sel 1 fr) (qLdA 4 (sel 1 fr) H fun w0 => k (.tup [w0, (sel 2 fr)]) H)) [x0, Aes.undef, Aes.undef, Aes.undef, Aes.undef, Aes.undef, Aes.undef] H : R))
/- refectory/refectoryref02.Same -/
noncomputable def r38_13 (k : KT R) : KT R := fun fr H => opn 12 fr (fun s0 s1 s2 s3 s4 s5 s6 s36 s41 s54 s59 s73 => 
(k [s0, s1, s2, s3, (.bool true), s5, s6, s36, s41, s54, s59, s73] H : R))
noncomputable def r38_10 (k : KT R) : KT R := fun fr H => opn 12 fr (fun s0 s1 s2 s3 s4 s5 s6 s36 s41 s54 s59 s73 => 
(qAdd X 3 s6 (.int .i64 1) fun v61 =>
k [s0, s1, s2, s3, s4, s5, v61, s36, s41, s54, s59, s73] H : R))
noncomputable def r38_12 (k : KT R) : KT R := fun fr H => opn 12 fr (fun s0 s1 s2 s3 s4 s5 s6 s36 s41 s54 s59 s73 => 
(k [s0, s1, s2, s3, (.bool false), s5, s6, s36, s41, s54, s59, s73] H : R))
noncomputable def r38_11 (C : CallF) (k : KT R) : KT R := fun fr H => opn 12 fr (fun s0 s1 s2 s3 s4 s5 s6 s36 s41 s54 s59 s73 => 
(qFa 3 s2 fun v62 =>
qLd v62 H fun v63 =>
qIa 4 v63 s6 fun v65 =>
qLdA 4 v65 H fun v66 =>
qFa 3 s3 fun v67 =>
qLd v67 H fun v68 =>
qIa 4 v68 s6 fun v70 =>
qLdA 4 v70 H fun v71 =>
qRes (C 38 [v66, v71] H) fun v72 H =>
qNot v72 fun v73 =>
k [s0, s1, s2, s3, s4, s5, s6, s36, s41, s54, s59, v73] H : R))
noncomputable def r38_9 (k : KT R) : KT R := fun fr H => opn 12 fr (fun s0 s1 s2 s3 s4 s5 s6 s36 s41 s54 s59 s73 => 
(qFa 3 s2 fun v56 =>
qLd v56 H fun v57 =>
qLenL v57 fun v58 =>
qLss X 3 s6 v58 fun v59 =>
k [s0, s1, s2, s3, s4, s5, s6, s36, s41, s54, v59, s73] H : R))
noncomputable def l38_5 (C : CallF) (k1 : KT R) (kr : KT R) : KT R → KT R := fun k2 => (r38_9 (qCd (sel 10) (fun k5 => k5) (fun _ => k1) (qBl (fun k3 => (r38_11 C (qCd (sel 11) (fun _ => (r38_12 kr)) (fun k4 => k4) k3))) (r38_10 k2))))
noncomputable def r38_8 (k : KT R) : KT R := fun fr H => opn 12 fr (fun s0 s1 s2 s3 s4 s5 s6 s36 s41 s54 s59 s73 => 
(k [s0, s1, s2, s3, s4, s5, (.int .i64 0), s36, s41, s54, s59, s73] H : R))
noncomputable def r38_5 (k : KT R) : KT R := fun fr H => opn 12 fr (fun s0 s1 s2 s3 s4 s5 s6 s36 s41 s54 s59 s73 => 
(qAdd X 3 s5 (.int .i64 1) fun v43 =>
k [s0, s1, s2, s3, s4, v43, s6, s36, s41, s54, s59, s73] H : R))
noncomputable def r38_7 (k : KT R) : KT R := fun fr H => opn 12 fr (fun s0 s1 s2 s3 s4 s5 s6 s36 s41 s54 s59 s73 => 
(k [s0, s1, s2, s3, (.bool false), s5, s6, s36, s41, s54, s59, s73] H : R))
noncomputable def r38_6 (k : KT R) : KT R := fun fr H => opn 12 fr (fun s0 s1 s2 s3 s4 s5 s6 s36 s41 s54 s59 s73 => 
(qFa 2 s2 fun v44 =>
qLd v44 H fun v45 =>
qIa 1 v45 s5 fun v47 =>
qLd v47 H fun v48 =>
qFa 2 s3 fun v49 =>
qLd v49 H fun v50 =>
qIa 1 v50 s5 fun v52 =>
qLd v52 H fun v53 =>
qNeq X 9 v48 v53 fun v54 =>
k [s0, s1, s2, s3, s4, s5, s6, s36, s41, v54, s59, s73] H : R))
noncomputable def r38_4 (k : KT R) : KT R := fun fr H => opn 12 fr (fun s0 s1 s2 s3 s4 s5 s6 s36 s41 s54 s59 s73 => 
(qFa 2 s2 fun v38 =>
qLd v38 H fun v39 =>
qLenL v39 fun v40 =>
qLss X 3 s5 v40 fun v41 =>
k [s0, s1, s2, s3, s4, s5, s6, s36, v41, s54, s59, s73] H : R))
noncomputable def l38_10 (k6 : KT R) (kr : KT R) : KT R → KT R := fun k7 => (r38_4 (qCd (sel 8) (fun k10 => k10) (fun _ => k6) (qBl (fun k8 => (r38_6 (qCd (sel 9) (fun _ => (r38_7 kr)) (fun k9 => k9) k8))) (r38_5 k7))))
noncomputable def r38_3 (k : KT R) : KT R := fun fr H => opn 12 fr (fun s0 s1 s2 s3 s4 s5 s6 s36 s41 s54 s59 s73 => 
(k [s0, s1, s2, s3, s4, (.int .i64 0), s6, s36, s41, s54, s59, s73] H : R))
noncomputable def r38_2 (k : KT R) : KT R := fun fr H => opn 12 fr (fun s0 s1 s2 s3 s4 s5 s6 s36 s41 s54 s59 s73 => 
(k [s0, s1, s2, s3, (.bool false), s5, s6, s36, s41, s54, s59, s73] H : R))
noncomputable def r38_1 (k : KT R) : KT R := fun fr H => opn 12 fr (fun s0 s1 s2 s3 s4 s5 s6 s36 s41 s54 s59 s73 => 
(qFa 0 s2 fun v7 =>
qLd v7 H fun v8 =>
qFa 0 s3 fun v9 =>
qLd v9 H fun v10 =>
qNeq X 3 v8 v10 fun v11 =>
qG v11 false (fun k => qFa 1 s2 fun v => k v H) H fun v13 H =>
qG v11 false (fun k => qLd v13 H fun v => k v H) H fun v14 H =>
qG v11 false (fun k => qFa 1 s3 fun v => k v H) H fun v15 H =>
qG v11 false (fun k => qLd v15 H fun v => k v H) H fun v16 H =>
qG v11 false (fun k => qNeq X 9 v14 v16 fun v => k v H) H fun v17 H =>
qPick v11 (.bool true) v17 fun v18 =>
qG v18 false (fun k => qFa 2 s2 fun v => k v H) H fun v20 H =>
qG v18 false (fun k => qLd v20 H fun v => k v H) H fun v21 H =>
qG v18 false (fun k => qLenL v21 fun v => k v H) H fun v22 H =>
qG v18 false (fun k => qFa 2 s3 fun v => k v H) H fun v23 H =>
qG v18 false (fun k => qLd v23 H fun v => k v H) H fun v24 H =>
qG v18 false (fun k => qLenL v24 fun v => k v H) H fun v25 H =>
qG v18 false (fun k => qNeq X 3 v22 v25 fun v => k v H) H fun v26 H =>
qPick v18 (.bool true) v26 fun v27 =>
qG v27 false (fun k => qFa 3 s2 fun v => k v H) H fun v29 H =>
qG v27 false (fun k => qLd v29 H fun v => k v H) H fun v30 H =>
qG v27 false (fun k => qLenL v30 fun v => k v H) H fun v31 H =>
qG v27 false (fun k => qFa 3 s3 fun v => k v H) H fun v32 H =>
qG v27 false (fun k => qLd v32 H fun v => k v H) H fun v33 H =>
qG v27 false (fun k => qLenL v33 fun v => k v H) H fun v34 H =>
qG v27 false (fun k => qNeq X 3 v31 v34 fun v => k v H) H fun v35 H =>
qPick v27 (.bool true) v35 fun v36 =>
k [s0, s1, s2, s3, s4, s5, s6, v36, s41, s54, s59, s73] H : R))
noncomputable def r38_0 (k : KT R) : KT R := fun fr H => opn 12 fr (fun s0 s1 s2 s3 s4 s5 s6 s36 s41 s54 s59 s73 => 
(qBox s0 H fun v2 H =>
qBox s1 H fun v3 H =>
k [s0, s1, v2, v3, (.bool false), s5, s6, s36, s41, s54, s59, s73] H : R))
noncomputable def c38 (C : CallF) (l0 : List AV) (H : AH) (k : AV → AH → R) : R := opn 2 l0 (fun x0 x1 => (qFn (fun kr => (r38_0 (r38_1 (qCd (sel 7) (fun _ => (r38_2 kr)) (fun k11 => k11) (r38_3 (qBl (fun k6 => (qLoop (l38_10 k6 kr))) (r38_8 (qBl (fun k1 => (qLoop (l38_5 C k1 kr))) (r38_13 kr)))))))))
(fun fr H => k (sel 4 fr) H) [x0, x1, Aes.undef, Aes.undef, Aes.undef, Aes.undef, Aes.undef, Aes.undef, Aes.undef, Aes.undef, Aes.undef, Aes.undef] H : R))
/- refectory/refectoryref19.SameFaults -/
noncomputable def r39_8 (k : KT R) : KT R := fun fr H => opn 7 fr (fun s0 s1 s4 s5 s10 s14 s41 => 
(k [s0, s1, (.bool true), s5, s10, s14, s41] H : R))
noncomputable def r39_5 (k : KT R) : KT R := fun fr H => opn 7 fr (fun s0 s1 s4 s5 s10 s14 s41 => 
(qAdd X 3 s5 (.int .i64 1) fun v16 =>
k [s0, s1, s4, v16, s10, s14, s41] H : R))
noncomputable def r39_7 (k : KT R) : KT R := fun fr H => opn 7 fr (fun s0 s1 s4 s5 s10 s14 s41 => 
(k [s0, s1, (.bool false), s5, s10, s14, s41] H : R))
noncomputable def r39_6 (C : CallF) (k : KT R) : KT R := fun fr H => opn 7 fr (fun s0 s1 s4 s5 s10 s14 s41 => 
(qIa 2 s0 s5 fun v19 =>
qFa 0 v19 fun v20 =>
qLd v20 H fun v21 =>
qIa 2 s1 s5 fun v24 =>
qFa 0 v24 fun v25 =>
qLd v25 H fun v26 =>
qNeq X 9 v21 v26 fun v27 =>
qG v27 false (fun k => k s0 H) H fun v29 H =>
qG v27 false (fun k => k s5 H) H fun v30 H =>
qG v27 false (fun k => qIa 2 v29 v30 fun v => k v H) H fun v31 H =>
qG v27 false (fun k => qFa 1 v31 fun v => k v H) H fun v32 H =>
qG v27 false (fun k => qLd v32 H fun v => k v H) H fun v33 H =>
qG v27 false (fun k => k s1 H) H fun v34 H =>
qG v27 false (fun k => k s5 H) H fun v35 H =>
qG v27 false (fun k => qIa 2 v34 v35 fun v => k v H) H fun v36 H =>
qG v27 false (fun k => qFa 1 v36 fun v => k v H) H fun v37 H =>
qG v27 false (fun k => qLd v37 H fun v => k v H) H fun v38 H =>
qG v27 false (fun k => qRes (C 53 [v33, v38] H) k) H fun v39 H =>
qG v27 false (fun k => qNot v39 fun v => k v H) H fun v40 H =>
qPick v27 (.bool true) v40 fun v41 =>
k [s0, s1, s4, s5, s10, s14, v41] H : R))
noncomputable def r39_4 (k : KT R) : KT R := fun fr H => opn 7 fr (fun s0 s1 s4 s5 s10 s14 s41 => 
(qLenL s0 fun v13 =>
qLss X 3 s5 v13 fun v14 =>
k [s0, s1, s4, s5, s10, v14, s41] H : R))
noncomputable def l39_5 (C : CallF) (k1 : KT R) (kr : KT R) : KT R → KT R := fun k2 => (r39_4 (qCd (sel 5) (fun k5 => k5) (fun _ => k1) (qBl (fun k3 => (r39_6 C (qCd (sel 6) (fun _ => (r39_7 kr)) (fun k4 => k4) k3))) (r39_5 k2))))
noncomputable def r39_3 (k : KT R) : KT R := fun fr H => opn 7 fr (fun s0 s1 s4 s5 s10 s14 s41 => 
(k [s0, s1, s4, (.int .i64 0), s10, s14, s41] H : R))
noncomputable def r39_2 (k : KT R) : KT R := fun fr H => opn 7 fr (fun s0 s1 s4 s5 s10 s14 s41 => 
(k [s0, s1, (.bool false), s5, s10, s14, s41] H : R))
noncomputable def r39_1 (k : KT R) : KT R := fun fr H => opn 7 fr (fun s0 s1 s4 s5 s10 s14 s41 => 
(qLenL s0 fun v7 =>
qLenL s1 fun v9 =>
qNeq X 3 v7 v9 fun v10 =>
k [s0, s1, s4, s5, v10, s14, s41] H : R))
noncomputable def r39_0 (k : KT R) : KT R := fun fr H => opn 7 fr (fun s0 s1 s4 s5 s10 s14 s41 => 
(k [s0, s1, (.bool false), s5, s10, s14, s41] H : R))
noncomputable def c39 (C : CallF) (l0 : List AV) (H : AH) (k : AV → AH → R) : R := opn 2 l0 (fun x0 x1 => (qFn (fun kr => (r39_0 (r39_1 (qCd (sel 4) (fun _ => (r39_2 kr)) (fun k6 => k6) (r39_3 (qBl (fun k1 => (qLoop (l39_5 C k1 kr))) (r39_8 kr)))))))
(fun fr H => k (sel 2 fr) H) [x0, x1, Aes.undef, Aes.undef, Aes.undef, Aes.undef, Aes.undef] H : R))
/- refectory/fill.Count -/
noncomputable def r40_9 (k : KT R) : KT R := fun fr H => opn 9 fr (fun s0 s2 s3 s5 s6 s7 s8 s9 s19 => 
(k [s0, s3, s3, s5, s6, s7, s8, s9, s19] H : R))
noncomputable def r40_8 (k : KT R) : KT R := fun fr H => opn 9 fr (fun s0 s2 s3 s5 s6 s7 s8 s9 s19 => 
(qAdd X 3 s8 (.int .i64 1) fun v27 =>
k [s0, s2, s3, s5, s6, s7, v27, s9, s19] H : R))
noncomputable def r40_7 (C : CallF) (k : KT R) : KT R := fun fr H => opn 9 fr (fun s0 s2 s3 s5 s6 s7 s8 s9 s19 => 
(qFa 9 s5 fun v23 =>
qLd v23 H fun v24 =>
qRes (C 40 [v24] H) fun v25 H =>
qAdd X 3 s3 v25 fun v26 =>
k [s0, s2, v26, s5, s6, s7, s8, s9, s19] H : R))
noncomputable def r40_6 (k : KT R) : KT R := fun fr H => opn 9 fr (fun s0 s2 s3 s5 s6 s7 s8 s9 s19 => 
(qAdd X 3 s3 (.int .i64 1) fun v21 =>
k [s0, s2, v21, s5, s6, s7, s8, s9, s19] H : R))
noncomputable def r40_5 (k : KT R) : KT R := fun fr H => opn 9 fr (fun s0 s2 s3 s5 s6 s7 s8 s9 s19 => 
(qFa 0 s5 fun v12 =>
qLd v12 H fun v13 =>
qEql X 3 v13 (.int .i64 3) fun v14 =>
qG v14 true (fun k => qFa 8 s5 fun v => k v H) H fun v16 H =>
qG v14 true (fun k => qLd v16 H fun v => k v H) H fun v17 H =>
qG v14 true (fun k => qEql X 9 v17 (.str [68,69,65,68,76,73,78,69]) fun v => k v H) H fun v18 H =>
qPick v14 v18 (.bool false) fun v19 =>
k [s0, s2, s3, s5, s6, s7, s8, s9, v19] H : R))
noncomputable def r40_4 (k : KT R) : KT R := fun fr H => opn 9 fr (fun s0 s2 s3 s5 s6 s7 s8 s9 s19 => 
(qIa 10 s6 s8 fun v10 =>
qLdA 10 v10 H fun v11 =>
qNew (.cells z61) .ptr H fun v5 H =>
qSt 10 v5 v11 H fun _ H =>
k [s0, s2, s3, v5, s6, s7, s8, s9, s19] H : R))
noncomputable def r40_3 (k : KT R) : KT R := fun fr H => opn 9 fr (fun s0 s2 s3 s5 s6 s7 s8 s9 s19 => 
(qLss X 3 s8 s7 fun v9 =>
k [s0, s2, s3, s5, s6, s7, s8, v9, s19] H : R))
noncomputable def l40_5 (C : CallF) (k1 : KT R) : KT R → KT R := fun k2 => (r40_3 (qCd (sel 7) (fun k5 => k5) (fun _ => k1) (qBl (fun k3 => (r40_4 (r40_5 (qCd (sel 8) (fun k4 => (r40_6 k4)) (fun k4 => k4) (r40_7 C k3))))) (r40_8 k2))))
noncomputable def r40_2 (k : KT R) : KT R := fun fr H => opn 9 fr (fun s0 s2 s3 s5 s6 s7 s8 s9 s19 => 
(qLenL s0 fun v7 =>
k [s0, s2, s3, s5, s0, v7, (.int .i64 0), s9, s19] H : R))
noncomputable def r40_1 (k : KT R) : KT R := fun fr H => opn 9 fr (fun s0 s2 s3 s5 s6 s7 s8 s9 s19 => 
(k [s0, s2, (.int .i64 0), s5, s6, s7, s8, s9, s19] H : R))
noncomputable def r40_0 (k : KT R) : KT R := fun fr H => opn 9 fr (fun s0 s2 s3 s5 s6 s7 s8 s9 s19 => 
(k [s0, (.int .i64 0), s3, s5, s6, s7, s8, s9, s19] H : R))
noncomputable def c40 (C : CallF) (l0 : List AV) (H : AH) (k : AV → AH → R) : R := opn 1 l0 (fun x0 => (qFn (fun kr => (r40_0 (r40_1 (r40_2 (qBl (fun k1 => (qLoop (l40_5 C k1))) (r40_9 kr))))))
(fun fr H => k (sel 1 fr) H) [x0, Aes.undef, Aes.undef, Aes.undef, Aes.undef, Aes.undef, Aes.undef, Aes.undef, Aes.undef] H : R))
/- refectory/refectoryref19.Count -/
noncomputable def r41_8 (k : KT R) : KT R := fun fr H => opn 6 fr (fun s0 s2 s3 s4 s8 s24 => 
(k [s0, s3, s3, s4, s8, s24] H : R))
noncomputable def r41_4 (k : KT R) : KT R := fun fr H => opn 6 fr (fun s0 s2 s3 s4 s8 s24 => 
(qAdd X 3 s4 (.int .i64 1) fun v10 =>
k [s0, s2, s3, v10, s8, s24] H : R))
noncomputable def r41_7 (C : CallF) (k : KT R) : KT R := fun fr H => opn 6 fr (fun s0 s2 s3 s4 s8 s24 => 
(qIa 10 s0 s4 fun v30 =>
qFa 9 v30 fun v31 =>
qLd v31 H fun v32 =>
qRes (C 41 [v32] H) fun v33 H =>
qAdd X 3 s3 v33 fun v34 =>
k [s0, s2, v34, s4, s8, s24] H : R))
noncomputable def r41_6 (k : KT R) : KT R := fun fr H => opn 6 fr (fun s0 s2 s3 s4 s8 s24 => 
(qAdd X 3 s3 (.int .i64 1) fun v26 =>
k [s0, s2, v26, s4, s8, s24] H : R))
noncomputable def r41_5 (k : KT R) : KT R := fun fr H => opn 6 fr (fun s0 s2 s3 s4 s8 s24 => 
(qIa 10 s0 s4 fun v13 =>
qFa 0 v13 fun v14 =>
qLd v14 H fun v15 =>
qEql X 3 v15 (.int .i64 3) fun v16 =>
qG v16 true (fun k => k s0 H) H fun v18 H =>
qG v16 true (fun k => k s4 H) H fun v19 H =>
qG v16 true (fun k => qIa 10 v18 v19 fun v => k v H) H fun v20 H =>
qG v16 true (fun k => qFa 8 v20 fun v => k v H) H fun v21 H =>
qG v16 true (fun k => qLd v21 H fun v => k v H) H fun v22 H =>
qG v16 true (fun k => qEql X 9 v22 (.str [68,69,65,68,76,73,78,69]) fun v => k v H) H fun v23 H =>
qPick v16 v23 (.bool false) fun v24 =>
k [s0, s2, s3, s4, s8, v24] H : R))
noncomputable def r41_3 (k : KT R) : KT R := fun fr H => opn 6 fr (fun s0 s2 s3 s4 s8 s24 => 
(qLenL s0 fun v7 =>
qLss X 3 s4 v7 fun v8 =>
k [s0, s2, s3, s4, v8, s24] H : R))
noncomputable def l41_5 (C : CallF) (k1 : KT R) : KT R → KT R := fun k2 => (r41_3 (qCd (sel 4) (fun k5 => k5) (fun _ => k1) (qBl (fun k3 => (r41_5 (qCd (sel 5) (fun k4 => (r41_6 k4)) (fun k4 => k4) (r41_7 C k3)))) (r41_4 k2))))
noncomputable def r41_2 (k : KT R) : KT R := fun fr H => opn 6 fr (fun s0 s2 s3 s4 s8 s24 => 
(k [s0, s2, s3, (.int .i64 0), s8, s24] H : R))
noncomputable def r41_1 (k : KT R) : KT R := fun fr H => opn 6 fr (fun s0 s2 s3 s4 s8 s24 => 
(k [s0, s2, (.int .i64 0), s4, s8, s24] H : R))
noncomputable def r41_0 (k : KT R) : KT R := fun fr H => opn 6 fr (fun s0 s2 s3 s4 s8 s24 => 
(k [s0, (.int .i64 0), s3, s4, s8, s24] H : R))
noncomputable def c41 (C : CallF) (l0 : List AV) (H : AH) (k : AV → AH → R) : R := opn 1 l0 (fun x0 => (qFn (fun kr => (r41_0 (r41_1 (r41_2 (qBl (fun k1 => (qLoop (l41_5 C k1))) (r41_8 kr))))))
(fun fr H => k (sel 1 fr) H) [x0, Aes.undef, Aes.undef, Aes.undef, Aes.undef, Aes.undef] H : R))
/- refectory/refectorylaw19.Made -/
noncomputable def r42_22 (k : KT R) : KT R := fun fr H => opn 17 fr (fun s0 s1 s2 s6 s7 s8 s9 s10 s11 s12 s16 s33 s57 s58 s65 s73 s77 => 
(k [s0, s1, s2, s8, s1, s8, s9, s10, s11, s12, s16, s33, s57, s58, s65, s73, s77] H : R))
noncomputable def r42_8 (k : KT R) : KT R := fun fr H => opn 17 fr (fun s0 s1 s2 s6 s7 s8 s9 s10 s11 s12 s16 s33 s57 s58 s65 s73 s77 => 
(qAdd X 3 s10 (.int .i64 1) fun v35 =>
k [s0, s1, s2, s6, s7, s8, s9, v35, s11, s12, s16, s33, s57, s58, s65, s73, s77] H : R))
noncomputable def r42_21 (k : KT R) : KT R := fun fr H => opn 17 fr (fun s0 s1 s2 s6 s7 s8 s9 s10 s11 s12 s16 s33 s57 s58 s65 s73 s77 => 
(qLdA 10 s12 H fun v88 =>
qRows z101 1 [(0, v88)] fun v89 =>
qApp 10 168 s8 v89 false H fun v90 H =>
k [s0, s1, s2, s6, s7, v90, s9, s10, s11, s12, s16, s33, s57, s58, s65, s73, s77] H : R))
noncomputable def r42_14 (C : CallF) (k : KT R) : KT R := fun fr H => opn 17 fr (fun s0 s1 s2 s6 s7 s8 s9 s10 s11 s12 s16 s33 s57 s58 s65 s73 s77 => 
(qRem X 3 s11 (.int .i64 100) fun v61 =>
qRes (C 54 [v61] H) fun v62 H =>
qBld z58 [(0, 1, (.int .i64 3)), (1, 1, v62)] fun v63 =>
qFa 4 s12 fun v64 =>
qSt 4 v64 v63 H fun _ H =>
k [s0, s1, s2, s6, s7, s8, s9, s10, s11, s12, s16, s33, s57, s58, s65, s73, s77] H : R))
noncomputable def r42_16 (k : KT R) : KT R := fun fr H => opn 17 fr (fun s0 s1 s2 s6 s7 s8 s9 s10 s11 s12 s16 s33 s57 s58 s65 s73 s77 => 
(qBld z109 [(0, 1, (.str [69,82,82,79,82])), (1, 1, (.str [84,89,80,69])), (2, 1, (.str [68,69,65,68,76,73,78,69]))] fun v67 =>
qQuo X 3 s11 (.int .i64 40) fun v69 =>
qRem X 3 v69 (.int .i64 3) fun v70 =>
qO (indexOf X 109 v67 v70) fun v71 =>
qFa 8 s12 fun v72 =>
qSt 1 v72 v71 H fun _ H =>
k [s0, s1, s2, s6, s7, s8, s9, s10, s11, s12, s16, s33, s57, s58, s65, s73, s77] H : R))
noncomputable def r42_20 (C : CallF) (k : KT R) : KT R := fun fr H => opn 17 fr (fun s0 s1 s2 s6 s7 s8 s9 s10 s11 s12 s16 s33 s57 s58 s65 s73 s77 => 
(qSub X 3 s2 (.int .i64 1) fun v82 =>
qRes (C 42 [s0, s1, v82] H) fun v83 H =>
qExt v83 0 fun v84 =>
qExt v83 1 fun v85 =>
qFa 9 s12 fun v86 =>
qSt 1 v86 v84 H fun _ H =>
k [s0, v85, s2, s6, s7, s8, s9, s10, s11, s12, s16, s33, s57, s58, s65, s73, s77] H : R))
noncomputable def r42_19 (k : KT R) : KT R := fun fr H => opn 17 fr (fun s0 s1 s2 s6 s7 s8 s9 s10 s11 s12 s16 s33 s57 s58 s65 s73 s77 => 
(qGtr X 3 s2 (.int .i64 0) fun v77 =>
k [s0, s1, s2, s6, s7, s8, s9, s10, s11, s12, s16, s33, s57, s58, s65, s73, v77] H : R))
noncomputable def r42_18 (k : KT R) : KT R := fun fr H => opn 17 fr (fun s0 s1 s2 s6 s7 s8 s9 s10 s11 s12 s16 s33 s57 s58 s65 s73 s77 => 
(qEql X 3 s57 (.int .i64 5) fun v75 =>
k [s0, s1, s2, s6, s7, s8, s9, s10, s11, s12, s16, s33, s57, s58, s65, v75, s77] H : R))
noncomputable def r42_17 (k : KT R) : KT R := fun fr H => opn 17 fr (fun s0 s1 s2 s6 s7 s8 s9 s10 s11 s12 s16 s33 s57 s58 s65 s73 s77 => 
(qEql X 3 s57 (.int .i64 4) fun v74 =>
k [s0, s1, s2, s6, s7, s8, s9, s10, s11, s12, s16, s33, s57, s58, s65, v74, s77] H : R))
noncomputable def r42_15 (k : KT R) : KT R := fun fr H => opn 17 fr (fun s0 s1 s2 s6 s7 s8 s9 s10 s11 s12 s16 s33 s57 s58 s65 s73 s77 => 
(qEql X 3 s57 (.int .i64 3) fun v66 =>
k [s0, s1, s2, s6, s7, s8, s9, s10, s11, s12, s16, s33, s57, s58, v66, s73, s77] H : R))
noncomputable def r42_13 (k : KT R) : KT R := fun fr H => opn 17 fr (fun s0 s1 s2 s6 s7 s8 s9 s10 s11 s12 s16 s33 s57 s58 s65 s73 s77 => 
(qEql X 3 s57 (.int .i64 1) fun v59 =>
k [s0, s1, s2, s6, s7, s8, s9, s10, s11, s12, s16, s33, s57, v59, s65, s73, s77] H : R))
noncomputable def r42_12 (k : KT R) : KT R := fun fr H => opn 17 fr (fun s0 s1 s2 s6 s7 s8 s9 s10 s11 s12 s16 s33 s57 s58 s65 s73 s77 => 
(qFa 0 s12 fun v56 =>
qLd v56 H fun v57 =>
k [s0, s1, s2, s6, s7, s8, s9, s10, s11, s12, s16, s33, v57, s58, s65, s73, s77] H : R))
noncomputable def r42_11 (C : CallF) (k : KT R) : KT R := fun fr H => opn 17 fr (fun s0 s1 s2 s6 s7 s8 s9 s10 s11 s12 s16 s33 s57 s58 s65 s73 s77 => 
(qRem X 3 s11 (.int .i64 5) fun v44 =>
qAdd X 3 (.int .i64 1) v44 fun v45 =>
qBld z108 [(0, 1, (.str [])), (1, 1, (.str [33])), (2, 1, (.str [93])), (3, 1, (.str [93,33])), (4, 1, (.str [33,93])), (5, 1, (.str [33,93,33])), (6, 1, (.str [])), (7, 1, (.str [33]))] fun v49 =>
qQuo X 3 s11 (.int .i64 5) fun v51 =>
qRem X 3 v51 (.int .i64 8) fun v52 =>
qO (indexOf X 108 v49 v52) fun v53 =>
qBld z54 [(0, 1, (.str [84])), (1, 1, v53)] fun v54 =>
qNew (.cells z101) .ptr H fun v12 H =>
qRes (C 54 [s10] H) fun v47 H =>
qKeep z101 v12 H (qAdd X 9 (.str [107]) v47 fun v48 =>
qBld z101 [(0, 1, v45), (1, 1, v48), (2, 2, v54)] fun v55 =>
qSt 10 v12 v55 H fun _ H =>
k [s0, s1, s2, s6, s7, s8, s9, s10, s11, v12, s16, s33, s57, s58, s65, s73, s77] H) : R))
noncomputable def r42_10 (k : KT R) : KT R := fun fr H => opn 17 fr (fun s0 s1 s2 s6 s7 s8 s9 s10 s11 s12 s16 s33 s57 s58 s65 s73 s77 => 
(qAdd X 3 s1 (.int .i64 1) fun v42 =>
k [s0, v42, s2, s6, s7, s8, s9, s10, s11, s12, s16, s33, s57, s58, s65, s73, s77] H : R))
noncomputable def r42_9 (C : CallF) (k : KT R) : KT R := fun fr H => opn 17 fr (fun s0 s1 s2 s6 s7 s8 s9 s10 s11 s12 s16 s33 s57 s58 s65 s73 s77 => 
(qIa 1 s0 s1 fun v38 =>
qLd v38 H fun v39 =>
qRes (C 23 [v39, (.int .i64 1048576)] H) fun v40 H =>
k [s0, s1, s2, s6, s7, s8, s9, s10, v40, s12, s16, s33, s57, s58, s65, s73, s77] H : R))
noncomputable def r42_7 (k : KT R) : KT R := fun fr H => opn 17 fr (fun s0 s1 s2 s6 s7 s8 s9 s10 s11 s12 s16 s33 s57 s58 s65 s73 s77 => 
(qLss X 3 s10 s9 fun v27 =>
qG v27 true (fun k => k s1 H) H fun v29 H =>
qG v27 true (fun k => k s0 H) H fun v30 H =>
qG v27 true (fun k => qLenL v30 fun v => k v H) H fun v31 H =>
qG v27 true (fun k => qLss X 3 v29 v31 fun v => k v H) H fun v32 H =>
qPick v27 v32 (.bool false) fun v33 =>
k [s0, s1, s2, s6, s7, s8, s9, s10, s11, s12, s16, v33, s57, s58, s65, s73, s77] H : R))
noncomputable def l42_10 (C : CallF) (k1 : KT R) : KT R → KT R := fun k2 => (r42_7 (qCd (sel 11) (fun k10 => k10) (fun _ => k1) (qBl (fun k3 => (r42_9 C (r42_10 (r42_11 C (r42_12 (qBl (fun k4 => (r42_13 (qCd (sel 13) (fun k5 => (r42_14 C k5)) (fun k5 => (r42_15 (qCd (sel 14) (fun k6 => (r42_16 k6)) (fun k6 => (r42_17 (qCd (sel 15) (fun k9 => k9) (fun k9 => (r42_18 k9)) (qCd (sel 15) (fun k7 => (r42_19 (qCd (sel 16) (fun k8 => (r42_20 C k8)) (fun k8 => k8) k7))) (fun k7 => k7) k6)))) k5))) k4))) (r42_21 k3))))))) (r42_8 k2))))
noncomputable def r42_6 (k : KT R) : KT R := fun fr H => opn 17 fr (fun s0 s1 s2 s6 s7 s8 s9 s10 s11 s12 s16 s33 s57 s58 s65 s73 s77 => 
(k [s0, s1, s2, s6, s7, s8, s9, (.int .i64 0), s11, s12, s16, s33, s57, s58, s65, s73, s77] H : R))
noncomputable def r42_5 (k : KT R) : KT R := fun fr H => opn 17 fr (fun s0 s1 s2 s6 s7 s8 s9 s10 s11 s12 s16 s33 s57 s58 s65 s73 s77 => 
(qAdd X 3 s1 (.int .i64 1) fun v24 =>
k [s0, v24, s2, s6, s7, s8, s9, s10, s11, s12, s16, s33, s57, s58, s65, s73, s77] H : R))
noncomputable def r42_4 (C : CallF) (k : KT R) : KT R := fun fr H => opn 17 fr (fun s0 s1 s2 s6 s7 s8 s9 s10 s11 s12 s16 s33 s57 s58 s65 s73 s77 => 
(qIa 1 s0 s1 fun v20 =>
qLd v20 H fun v21 =>
qRes (C 23 [v21, (.int .i64 4)] H) fun v22 H =>
k [s0, s1, s2, s6, s7, s8, v22, s10, s11, s12, s16, s33, s57, s58, s65, s73, s77] H : R))
noncomputable def r42_3 (k : KT R) : KT R := fun fr H => opn 17 fr (fun s0 s1 s2 s6 s7 s8 s9 s10 s11 s12 s16 s33 s57 s58 s65 s73 s77 => 
(k [s0, s1, s2, (.sl [] .nil), s1, s8, s9, s10, s11, s12, s16, s33, s57, s58, s65, s73, s77] H : R))
noncomputable def r42_2 (k : KT R) : KT R := fun fr H => opn 17 fr (fun s0 s1 s2 s6 s7 s8 s9 s10 s11 s12 s16 s33 s57 s58 s65 s73 s77 => 
(qLenL s0 fun v15 =>
qGeq X 3 s1 v15 fun v16 =>
k [s0, s1, s2, s6, s7, s8, s9, s10, s11, s12, v16, s33, s57, s58, s65, s73, s77] H : R))
noncomputable def r42_1 (k : KT R) : KT R := fun fr H => opn 17 fr (fun s0 s1 s2 s6 s7 s8 s9 s10 s11 s12 s16 s33 s57 s58 s65 s73 s77 => 
(k [s0, s1, s2, s6, s7, (.sl [] .nil), s9, s10, s11, s12, s16, s33, s57, s58, s65, s73, s77] H : R))
noncomputable def r42_0 (k : KT R) : KT R := fun fr H => opn 17 fr (fun s0 s1 s2 s6 s7 s8 s9 s10 s11 s12 s16 s33 s57 s58 s65 s73 s77 => 
(k [s0, s1, s2, (.sl [] .nil), (.int .i64 0), s8, s9, s10, s11, s12, s16, s33, s57, s58, s65, s73, s77] H : R))
noncomputable def c42 (C : CallF) (l0 : List AV) (H : AH) (k : AV → AH → R) : R := opn 3 l0 (fun x0 x1 x2 => (qFn (fun kr => (r42_0 (r42_1 (r42_2 (qCd (sel 10) (fun _ => (r42_3 kr)) (fun k11 => k11) (r42_4 C (r42_5 (r42_6 (qBl (fun k1 => (qLoop (l42_10 C k1))) (r42_22 kr))))))))))
(fun fr H => k (.tup [(sel 3 fr), (sel 4 fr)]) H) [x0, x1, x2, Aes.undef, Aes.undef, Aes.undef, Aes.undef, Aes.undef, Aes.undef, Aes.undef, Aes.undef, Aes.undef, Aes.undef, Aes.undef, Aes.undef, Aes.undef, Aes.undef] H : R))
/- refectory/refectorylaw19.Nodes -/
noncomputable def r43_6 (k : KT R) : KT R := fun fr H => opn 5 fr (fun s0 s2 s3 s4 s8 => 
(k [s0, s3, s3, s4, s8] H : R))
noncomputable def r43_4 (k : KT R) : KT R := fun fr H => opn 5 fr (fun s0 s2 s3 s4 s8 => 
(qAdd X 3 s4 (.int .i64 1) fun v10 =>
k [s0, s2, s3, v10, s8] H : R))
noncomputable def r43_5 (C : CallF) (k : KT R) : KT R := fun fr H => opn 5 fr (fun s0 s2 s3 s4 s8 => 
(qIa 10 s0 s4 fun v14 =>
qFa 0 v14 fun v15 =>
qLd v15 H fun v16 =>
qIa 10 s0 s4 fun v19 =>
qFa 1 v19 fun v20 =>
qLd v20 H fun v21 =>
qIa 10 s0 s4 fun v24 =>
qFa 2 v24 fun v25 =>
qLdA 2 v25 H fun v26 =>
qIa 10 s0 s4 fun v29 =>
qFa 4 v29 fun v30 =>
qLdA 4 v30 H fun v31 =>
qIa 10 s0 s4 fun v34 =>
qFa 8 v34 fun v35 =>
qLd v35 H fun v36 =>
qIa 10 s0 s4 fun v39 =>
qFa 9 v39 fun v40 =>
qLd v40 H fun v41 =>
qRes (C 43 [v41] H) fun v42 H =>
qLd v35 H fun w => qSame v36 w (qLdA 4 v30 H fun w => qSame v31 w (qLdA 2 v25 H fun w => qSame v26 w (qLd v20 H fun w => qSame v21 w (qLd v15 H fun w => qSame v16 w (qBld z61 [(0, 1, v16), (1, 1, v21), (2, 2, v26), (4, 4, v31), (8, 1, v36), (9, 1, v42)] fun v43 =>
qRows z61 1 [(0, v43)] fun v44 =>
qApp 10 168 s3 v44 false H fun v45 H =>
k [s0, s2, v45, s4, s8] H))))) : R))
noncomputable def r43_3 (k : KT R) : KT R := fun fr H => opn 5 fr (fun s0 s2 s3 s4 s8 => 
(qLenL s0 fun v7 =>
qLss X 3 s4 v7 fun v8 =>
k [s0, s2, s3, s4, v8] H : R))
noncomputable def l43_4 (C : CallF) (k1 : KT R) : KT R → KT R := fun k2 => (r43_3 (qCd (sel 4) (fun k4 => k4) (fun _ => k1) (qBl (fun k3 => (r43_5 C k3)) (r43_4 k2))))
noncomputable def r43_2 (k : KT R) : KT R := fun fr H => opn 5 fr (fun s0 s2 s3 s4 s8 => 
(k [s0, s2, s3, (.int .i64 0), s8] H : R))
noncomputable def r43_1 (k : KT R) : KT R := fun fr H => opn 5 fr (fun s0 s2 s3 s4 s8 => 
(k [s0, s2, (.sl [] .nil), s4, s8] H : R))
noncomputable def r43_0 (k : KT R) : KT R := fun fr H => opn 5 fr (fun s0 s2 s3 s4 s8 => 
(k [s0, (.sl [] .nil), s3, s4, s8] H : R))
noncomputable def c43 (C : CallF) (l0 : List AV) (H : AH) (k : AV → AH → R) : R := opn 1 l0 (fun x0 => (qFn (fun kr => (r43_0 (r43_1 (r43_2 (qBl (fun k1 => (qLoop (l43_4 C k1))) (r43_6 kr))))))
(fun fr H => k (sel 1 fr) H) [x0, Aes.undef, Aes.undef, Aes.undef, Aes.undef] H : R))
/- refectory/bucket.cut -/
noncomputable def r44_1 (k : KT R) : KT R := fun fr H => opn 3 fr (fun s0 s1 s4 => 
(qO (foldO min2 s0 [s1]) fun v7 =>
qO (foldO max2 (.int .i64 0) [v7]) fun v8 =>
k [s0, s1, v8] H : R))
noncomputable def r44_0 (k : KT R) : KT R := fun fr H => opn 3 fr (fun s0 s1 s4 => 
(k [s0, s1, (.int .i64 0)] H : R))
noncomputable def c44 (C : CallF) (l0 : List AV) (H : AH) (k : AV → AH → R) : R := opn 2 l0 (fun x0 x1 => (qFn (fun kr => (r44_0 (r44_1 kr)))
(fun fr H => k (sel 2 fr) H) [x0, x1, Aes.undef] H : R))
/- (*refectory/bucket.Bucket).pour -/
noncomputable def r45_0 (k : KT R) : KT R := fun fr H => opn 2 fr (fun s0 s1 => 
(qNc s0 fun v6 =>
qFa 2 v6 fun v7 =>
qLd v7 H fun v8 =>
qAdd X 3 v8 s1 fun v10 =>
qNc s0 fun v12 =>
qFa 1 v12 fun v13 =>
qLd v13 H fun v14 =>
qO (foldO min2 v10 [v14]) fun v15 =>
qNc s0 fun v16 =>
qFa 2 v16 fun v17 =>
qSt 1 v17 v15 H fun _ H =>
k [s0, s1] H : R))
noncomputable def c45 (C : CallF) (l0 : List AV) (H : AH) (k : AV → AH → R) : R := opn 2 l0 (fun x0 x1 => (qFn (fun kr => (r45_0 kr))
(fun fr H => k (.tup []) H) [x0, x1] H : R))
/- refectory/share.cut -/
noncomputable def r46_1 (k : KT R) : KT R := fun fr H => opn 3 fr (fun s0 s1 s4 => 
(qO (foldO min2 s0 [s1]) fun v7 =>
qO (foldO max2 (.int .i64 1) [v7]) fun v8 =>
k [s0, s1, v8] H : R))
noncomputable def r46_0 (k : KT R) : KT R := fun fr H => opn 3 fr (fun s0 s1 s4 => 
(k [s0, s1, (.int .i64 0)] H : R))
noncomputable def c46 (C : CallF) (l0 : List AV) (H : AH) (k : AV → AH → R) : R := opn 2 l0 (fun x0 x1 => (qFn (fun kr => (r46_0 (r46_1 kr)))
(fun fr H => k (sel 2 fr) H) [x0, x1, Aes.undef] H : R))
/- (*refectory/share.Share).next -/
noncomputable def r47_1 (k : KT R) : KT R := fun fr H => opn 1 fr (fun s0 => 
(qNc s0 fun v16 =>
qFa 27 v16 fun v17 =>
qSt 1 v17 (.bool false) H fun _ H =>
k [s0] H : R))
noncomputable def r47_0 (k : KT R) : KT R := fun fr H => opn 1 fr (fun s0 => 
(qNc s0 fun v4 =>
qFa 26 v4 fun v5 =>
qLd v5 H fun v6 =>
qAdd X 3 v6 (.int .i64 1) fun v7 =>
qNc s0 fun v9 =>
qFa 1 v9 fun v10 =>
qLd v10 H fun v11 =>
qRem X 3 v7 v11 fun v12 =>
qNc s0 fun v13 =>
qFa 26 v13 fun v14 =>
qSt 1 v14 v12 H fun _ H =>
k [s0] H : R))
noncomputable def c47 (C : CallF) (l0 : List AV) (H : AH) (k : AV → AH → R) : R := opn 1 l0 (fun x0 => (qFn (fun kr => (r47_0 (r47_1 kr)))
(fun fr H => k (.tup []) H) [x0] H : R))
/- (*refectory/refectoryref24.S).on -/
noncomputable def r48_0 (k : KT R) : KT R := fun fr H => opn 1 fr (fun s0 => 
(qNc s0 fun v5 =>
qFa 4 v5 fun v6 =>
qLd v6 H fun v7 =>
qAdd X 3 v7 (.int .i64 1) fun v8 =>
qNc s0 fun v10 =>
qFa 1 v10 fun v11 =>
qLd v11 H fun v12 =>
qLenL v12 fun v13 =>
qRem X 3 v8 v13 fun v14 =>
qNc s0 fun v15 =>
qFa 4 v15 fun v16 =>
qSt 1 v16 v14 H fun _ H =>
qNc s0 fun v17 =>
qFa 5 v17 fun v18 =>
qSt 1 v18 (.bool false) H fun _ H =>
k [s0] H : R))
noncomputable def c48 (C : CallF) (l0 : List AV) (H : AH) (k : AV → AH → R) : R := opn 1 l0 (fun x0 => (qFn (fun kr => (r48_0 kr))
(fun fr H => k (.tup []) H) [x0] H : R))
/- (*refectory/fill.finish).fields -/
noncomputable def r49_10 (k : KT R) : KT R := fun fr H => opn 14 fr (fun s0 s1 s2 s6 s7 s8 s9 s11 s12 s13 s15 s16 s17 s18 => 
(qLdA 4 s8 H fun v54 =>
qSt 4 s6 v54 H fun _ H =>
k [s0, s1, s2, s6, s9, s8, s9, s11, s12, s13, s15, s16, s17, s18] H : R))
noncomputable def r49_9 (k : KT R) : KT R := fun fr H => opn 14 fr (fun s0 s1 s2 s6 s7 s8 s9 s11 s12 s13 s15 s16 s17 s18 => 
(qAdd X 3 s17 (.int .i64 1) fun v53 =>
k [s0, s1, s2, s6, s7, s8, s9, s11, s12, s13, s15, s16, v53, s18] H : R))
noncomputable def r49_8 (k : KT R) : KT R := fun fr H => opn 14 fr (fun s0 s1 s2 s6 s7 s8 s9 s11 s12 s13 s15 s16 s17 s18 => 
(qG s9 true (fun k => k s13 H) H fun v51 H =>
qPick s9 v51 (.bool false) fun v52 =>
k [s0, s1, s2, s6, s7, s8, v52, s11, s12, s13, s15, s16, s17, s18] H : R))
noncomputable def r49_7 (k : KT R) : KT R := fun fr H => opn 14 fr (fun s0 s1 s2 s6 s7 s8 s9 s11 s12 s13 s15 s16 s17 s18 => 
(qFa 2 s8 fun v36 =>
qLd v36 H fun v37 =>
qFa 1 s11 fun v38 =>
qLd v38 H fun v39 =>
qRows z9 1 [(0, v39)] fun v40 =>
qFa 3 s8 fun v42 =>
qLd v42 H fun v43 =>
qLdA 4 s12 H fun v44 =>
qRows z58 1 [(0, v44)] fun v45 =>
qApp 1 16 v37 v40 false H fun v41 H =>
qLdA 4 s12 H fun w => qSame v44 w (qLd v42 H fun w => qSame v43 w (qFa 2 s8 fun v47 =>
qApp 4 72 v43 v45 false H fun v46 H =>
qSt 1 v47 v41 H fun _ H =>
qFa 3 s8 fun v48 =>
qSt 1 v48 v46 H fun _ H =>
k [s0, s1, s2, s6, s7, s8, s9, s11, s12, s13, s15, s16, s17, s18] H)) : R))
noncomputable def r49_6 (C : CallF) (k : KT R) : KT R := fun fr H => opn 14 fr (fun s0 s1 s2 s6 s7 s8 s9 s11 s12 s13 s15 s16 s17 s18 => 
(qLdA 10 s11 H fun v23 =>
qFa 2 s11 fun v24 =>
qLdA 2 v24 H fun v25 =>
qFa 1 s11 fun v28 =>
qLd v28 H fun v29 =>
qBld z72 [(0, 1, v29)] fun v30 =>
qRows z72 1 [(0, v30)] fun v31 =>
qNew (.cells z58) .ptr H fun v12 H =>
qRes (C 56 [s2] H) fun v27 H =>
qKeep z58 v12 H (qLd v28 H fun w => qSame v29 w (qLdA 2 v24 H fun w => qSame v25 w (qLdA 10 s11 H fun w => qSame v23 w (qApp 2 24 v27 v31 false H fun v32 H =>
qKeep z58 v12 H (qLdA 2 v24 H fun w => qSame v25 w (qLdA 10 s11 H fun w => qSame v23 w (qRes (C 55 [s0, v23, v25, v32] H) fun v33 H =>
qKeep z58 v12 H (qExt v33 0 fun v34 =>
qExt v33 1 fun v35 =>
qSt 4 v12 v34 H fun _ H =>
k [s0, s1, s2, s6, s7, s8, s9, s11, v12, v35, s15, s16, s17, s18] H)))))))) : R))
noncomputable def r49_5 (k : KT R) : KT R := fun fr H => opn 14 fr (fun s0 s1 s2 s6 s7 s8 s9 s11 s12 s13 s15 s16 s17 s18 => 
(qIa 10 s15 s17 fun v19 =>
qLdA 10 v19 H fun v20 =>
qNew (.cells z61) .ptr H fun v11 H =>
qSt 10 v11 v20 H fun _ H =>
k [s0, s1, s2, s6, s7, s8, s9, v11, s12, s13, s15, s16, s17, s18] H : R))
noncomputable def r49_4 (k : KT R) : KT R := fun fr H => opn 14 fr (fun s0 s1 s2 s6 s7 s8 s9 s11 s12 s13 s15 s16 s17 s18 => 
(qLss X 3 s17 s16 fun v18 =>
k [s0, s1, s2, s6, s7, s8, s9, s11, s12, s13, s15, s16, s17, v18] H : R))
noncomputable def l49_4 (C : CallF) (k1 : KT R) : KT R → KT R := fun k2 => (r49_4 (qCd (sel 13) (fun k4 => k4) (fun _ => k1) (qBl (fun k3 => (r49_5 (r49_6 C (r49_7 (r49_8 k3))))) (r49_9 k2))))
noncomputable def r49_3 (k : KT R) : KT R := fun fr H => opn 14 fr (fun s0 s1 s2 s6 s7 s8 s9 s11 s12 s13 s15 s16 s17 s18 => 
(qLenL s1 fun v16 =>
k [s0, s1, s2, s6, s7, s8, s9, s11, s12, s13, s1, v16, (.int .i64 0), s18] H : R))
noncomputable def r49_2 (k : KT R) : KT R := fun fr H => opn 14 fr (fun s0 s1 s2 s6 s7 s8 s9 s11 s12 s13 s15 s16 s17 s18 => 
(k [s0, s1, s2, s6, s7, s8, (.bool true), s11, s12, s13, s15, s16, s17, s18] H : R))
noncomputable def r49_1 (k : KT R) : KT R := fun fr H => opn 14 fr (fun s0 s1 s2 s6 s7 s8 s9 s11 s12 s13 s15 s16 s17 s18 => 
(qBld z58 [(0, 1, (.int .i64 8))] fun v14 =>
qNew (.cells z58) .ptr H fun v8 H =>
qSt 4 v8 v14 H fun _ H =>
k [s0, s1, s2, s6, s7, v8, s9, s11, s12, s13, s15, s16, s17, s18] H : R))
noncomputable def r49_0 (k : KT R) : KT R := fun fr H => opn 14 fr (fun s0 s1 s2 s6 s7 s8 s9 s11 s12 s13 s15 s16 s17 s18 => 
(qNew (.cells z58) .ptr H fun v6 H =>
k [s0, s1, s2, v6, (.bool false), s8, s9, s11, s12, s13, s15, s16, s17, s18] H : R))
noncomputable def c49 (C : CallF) (l0 : List AV) (H : AH) (k : AV → AH → R) : R := opn 3 l0 (fun x0 x1 x2 => (qFn (fun kr => (r49_0 (r49_1 (r49_2 (r49_3 (qBl (fun k1 => (qLoop (l49_4 C k1))) (r49_10 kr)))))))
(fun fr H => qPtr (sel 3 fr) (qLdA 4 (sel 3 fr) H fun w0 => k (.tup [w0, (sel 4 fr)]) H)) [x0, x1, x2, Aes.undef, Aes.undef, Aes.undef, Aes.undef, Aes.undef, Aes.undef, Aes.undef, Aes.undef, Aes.undef, Aes.undef, Aes.undef] H : R))
/- refectory/fill.null -/
noncomputable def r50_1 (k : KT R) : KT R := fun fr H => opn 1 fr (fun s0 => 
(qBld z58 [(0, 1, (.int .i64 1))] fun v1 =>
qSt 4 s0 v1 H fun _ H =>
k [s0] H : R))
noncomputable def r50_0 (k : KT R) : KT R := fun fr H => opn 1 fr (fun s0 => 
(qNew (.cells z58) .ptr H fun v0 H =>
k [v0] H : R))
noncomputable def c50 (C : CallF) (l0 : List AV) (H : AH) (k : AV → AH → R) : R := opn 0 l0 ((qFn (fun kr => (r50_0 (r50_1 kr)))
(fun fr H => qPtr (sel 0 fr) (qLdA 4 (sel 0 fr) H fun w0 => k w0 H)) [Aes.undef] H : R))
/- refectory/refectorylaw02.Few -/
noncomputable def r51_13 (k : KT R) : KT R := fun fr H => opn 11 fr (fun s0 s1 s2 s4 s5 s6 s26 s31 s40 s45 s56 => 
(k [s0, s1, s2, (.bool true), s5, s6, s26, s31, s40, s45, s56] H : R))
noncomputable def r51_10 (k : KT R) : KT R := fun fr H => opn 11 fr (fun s0 s1 s2 s4 s5 s6 s26 s31 s40 s45 s56 => 
(qAdd X 3 s6 (.int .i64 1) fun v47 =>
k [s0, s1, s2, s4, s5, v47, s26, s31, s40, s45, s56] H : R))
noncomputable def r51_12 (k : KT R) : KT R := fun fr H => opn 11 fr (fun s0 s1 s2 s4 s5 s6 s26 s31 s40 s45 s56 => 
(k [s0, s1, s2, (.bool false), s5, s6, s26, s31, s40, s45, s56] H : R))
noncomputable def r51_11 (C : CallF) (k : KT R) : KT R := fun fr H => opn 11 fr (fun s0 s1 s2 s4 s5 s6 s26 s31 s40 s45 s56 => 
(qFa 3 s2 fun v48 =>
qLd v48 H fun v49 =>
qIa 4 v49 s6 fun v51 =>
qLdA 4 v51 H fun v52 =>
qSub X 3 s1 (.int .i64 1) fun v54 =>
qRes (C 51 [v52, v54] H) fun v55 H =>
qNot v55 fun v56 =>
k [s0, s1, s2, s4, s5, s6, s26, s31, s40, s45, v56] H : R))
noncomputable def r51_9 (k : KT R) : KT R := fun fr H => opn 11 fr (fun s0 s1 s2 s4 s5 s6 s26 s31 s40 s45 s56 => 
(qFa 3 s2 fun v42 =>
qLd v42 H fun v43 =>
qLenL v43 fun v44 =>
qLss X 3 s6 v44 fun v45 =>
k [s0, s1, s2, s4, s5, s6, s26, s31, s40, v45, s56] H : R))
noncomputable def l51_5 (C : CallF) (k1 : KT R) (kr : KT R) : KT R → KT R := fun k2 => (r51_9 (qCd (sel 9) (fun k5 => k5) (fun _ => k1) (qBl (fun k3 => (r51_11 C (qCd (sel 10) (fun _ => (r51_12 kr)) (fun k4 => k4) k3))) (r51_10 k2))))
noncomputable def r51_8 (k : KT R) : KT R := fun fr H => opn 11 fr (fun s0 s1 s2 s4 s5 s6 s26 s31 s40 s45 s56 => 
(k [s0, s1, s2, s4, s5, (.int .i64 0), s26, s31, s40, s45, s56] H : R))
noncomputable def r51_5 (k : KT R) : KT R := fun fr H => opn 11 fr (fun s0 s1 s2 s4 s5 s6 s26 s31 s40 s45 s56 => 
(qAdd X 3 s5 (.int .i64 1) fun v33 =>
k [s0, s1, s2, s4, v33, s6, s26, s31, s40, s45, s56] H : R))
noncomputable def r51_7 (k : KT R) : KT R := fun fr H => opn 11 fr (fun s0 s1 s2 s4 s5 s6 s26 s31 s40 s45 s56 => 
(k [s0, s1, s2, (.bool false), s5, s6, s26, s31, s40, s45, s56] H : R))
noncomputable def r51_6 (k : KT R) : KT R := fun fr H => opn 11 fr (fun s0 s1 s2 s4 s5 s6 s26 s31 s40 s45 s56 => 
(qFa 2 s2 fun v34 =>
qLd v34 H fun v35 =>
qIa 1 v35 s5 fun v37 =>
qLd v37 H fun v38 =>
qLenS v38 fun v39 =>
qGtr X 3 v39 (.int .i64 100) fun v40 =>
k [s0, s1, s2, s4, s5, s6, s26, s31, v40, s45, s56] H : R))
noncomputable def r51_4 (k : KT R) : KT R := fun fr H => opn 11 fr (fun s0 s1 s2 s4 s5 s6 s26 s31 s40 s45 s56 => 
(qFa 2 s2 fun v28 =>
qLd v28 H fun v29 =>
qLenL v29 fun v30 =>
qLss X 3 s5 v30 fun v31 =>
k [s0, s1, s2, s4, s5, s6, s26, v31, s40, s45, s56] H : R))
noncomputable def l51_10 (k6 : KT R) (kr : KT R) : KT R → KT R := fun k7 => (r51_4 (qCd (sel 7) (fun k10 => k10) (fun _ => k6) (qBl (fun k8 => (r51_6 (qCd (sel 8) (fun _ => (r51_7 kr)) (fun k9 => k9) k8))) (r51_5 k7))))
noncomputable def r51_3 (k : KT R) : KT R := fun fr H => opn 11 fr (fun s0 s1 s2 s4 s5 s6 s26 s31 s40 s45 s56 => 
(k [s0, s1, s2, s4, (.int .i64 0), s6, s26, s31, s40, s45, s56] H : R))
noncomputable def r51_2 (k : KT R) : KT R := fun fr H => opn 11 fr (fun s0 s1 s2 s4 s5 s6 s26 s31 s40 s45 s56 => 
(k [s0, s1, s2, (.bool false), s5, s6, s26, s31, s40, s45, s56] H : R))
noncomputable def r51_1 (k : KT R) : KT R := fun fr H => opn 11 fr (fun s0 s1 s2 s4 s5 s6 s26 s31 s40 s45 s56 => 
(qEql X 3 s1 (.int .i64 0) fun v8 =>
qG v8 false (fun k => qFa 3 s2 fun v => k v H) H fun v10 H =>
qG v8 false (fun k => qLd v10 H fun v => k v H) H fun v11 H =>
qG v8 false (fun k => qLenL v11 fun v => k v H) H fun v12 H =>
qG v8 false (fun k => qGtr X 3 v12 (.int .i64 12) fun v => k v H) H fun v13 H =>
qPick v8 (.bool true) v13 fun v14 =>
qG v14 false (fun k => qFa 2 s2 fun v => k v H) H fun v16 H =>
qG v14 false (fun k => qLd v16 H fun v => k v H) H fun v17 H =>
qG v14 false (fun k => qLenL v17 fun v => k v H) H fun v18 H =>
qG v14 false (fun k => qGtr X 3 v18 (.int .i64 12) fun v => k v H) H fun v19 H =>
qPick v14 (.bool true) v19 fun v20 =>
qG v20 false (fun k => qFa 1 s2 fun v => k v H) H fun v22 H =>
qG v20 false (fun k => qLd v22 H fun v => k v H) H fun v23 H =>
qG v20 false (fun k => qLenS v23 fun v => k v H) H fun v24 H =>
qG v20 false (fun k => qGtr X 3 v24 (.int .i64 100) fun v => k v H) H fun v25 H =>
qPick v20 (.bool true) v25 fun v26 =>
k [s0, s1, s2, s4, s5, s6, v26, s31, s40, s45, s56] H : R))
noncomputable def r51_0 (k : KT R) : KT R := fun fr H => opn 11 fr (fun s0 s1 s2 s4 s5 s6 s26 s31 s40 s45 s56 => 
(qBox s0 H fun v2 H =>
k [s0, s1, v2, (.bool false), s5, s6, s26, s31, s40, s45, s56] H : R))
noncomputable def c51 (C : CallF) (l0 : List AV) (H : AH) (k : AV → AH → R) : R := opn 2 l0 (fun x0 x1 => (qFn (fun kr => (r51_0 (r51_1 (qCd (sel 6) (fun _ => (r51_2 kr)) (fun k11 => k11) (r51_3 (qBl (fun k6 => (qLoop (l51_10 k6 kr))) (r51_8 (qBl (fun k1 => (qLoop (l51_5 C k1 kr))) (r51_13 kr)))))))))
(fun fr H => k (sel 3 fr) H) [x0, x1, Aes.undef, Aes.undef, Aes.undef, Aes.undef, Aes.undef, Aes.undef, Aes.undef, Aes.undef, Aes.undef] H : R))
/- (*refectory/refectoryref19.F).fields -/
noncomputable def r52_8 (k : KT R) : KT R := fun fr H => opn 11 fr (fun s0 s1 s2 s6 s7 s8 s9 s10 s11 s12 s17 => 
(qLdA 4 s8 H fun v65 =>
qSt 4 s6 v65 H fun _ H =>
k [s0, s1, s2, s6, s9, s8, s9, s10, s11, s12, s17] H : R))
noncomputable def r52_4 (k : KT R) : KT R := fun fr H => opn 11 fr (fun s0 s1 s2 s6 s7 s8 s9 s10 s11 s12 s17 => 
(qAdd X 3 s10 (.int .i64 1) fun v19 =>
k [s0, s1, s2, s6, s7, s8, s9, v19, s11, s12, s17] H : R))
noncomputable def r52_7 (k : KT R) : KT R := fun fr H => opn 11 fr (fun s0 s1 s2 s6 s7 s8 s9 s10 s11 s12 s17 => 
(qG s9 true (fun k => k s12 H) H fun v62 H =>
qG s9 true (fun k => qNot v62 fun v => k v H) H fun v63 H =>
qPick s9 v63 (.bool false) fun v64 =>
k [s0, s1, s2, s6, s7, s8, v64, s10, s11, s12, s17] H : R))
noncomputable def r52_6 (k : KT R) : KT R := fun fr H => opn 11 fr (fun s0 s1 s2 s6 s7 s8 s9 s10 s11 s12 s17 => 
(qFa 2 s8 fun v44 =>
qLd v44 H fun v45 =>
qIa 10 s1 s10 fun v48 =>
qFa 1 v48 fun v49 =>
qLd v49 H fun v50 =>
qRows z9 1 [(0, v50)] fun v51 =>
qFa 3 s8 fun v53 =>
qLd v53 H fun v54 =>
qLdA 4 s11 H fun v55 =>
qRows z58 1 [(0, v55)] fun v56 =>
qApp 1 16 v45 v51 false H fun v52 H =>
qLdA 4 s11 H fun w => qSame v55 w (qLd v53 H fun w => qSame v54 w (qFa 2 s8 fun v58 =>
qApp 4 72 v54 v56 false H fun v57 H =>
qSt 1 v58 v52 H fun _ H =>
qFa 3 s8 fun v59 =>
qSt 1 v59 v57 H fun _ H =>
k [s0, s1, s2, s6, s7, s8, s9, s10, s11, s12, s17] H)) : R))
noncomputable def r52_5 (C : CallF) (k : KT R) : KT R := fun fr H => opn 11 fr (fun s0 s1 s2 s6 s7 s8 s9 s10 s11 s12 s17 => 
(qIa 10 s1 s10 fun v24 =>
qLdA 10 v24 H fun v25 =>
qIa 10 s1 s10 fun v28 =>
qFa 2 v28 fun v29 =>
qLdA 2 v29 H fun v30 =>
qIa 10 s1 s10 fun v35 =>
qFa 1 v35 fun v36 =>
qLd v36 H fun v37 =>
qBld z72 [(0, 1, v37)] fun v38 =>
qRows z72 1 [(0, v38)] fun v39 =>
qNew (.cells z58) .ptr H fun v11 H =>
qApp 2 24 (.sl [] .nil) s2 false H fun v32 H =>
qKeep z58 v11 H (qLd v36 H fun w => qSame v37 w (qLdA 2 v29 H fun w => qSame v30 w (qLdA 10 v24 H fun w => qSame v25 w (qApp 2 24 v32 v39 false H fun v40 H =>
qKeep z58 v11 H (qLdA 2 v29 H fun w => qSame v30 w (qLdA 10 v24 H fun w => qSame v25 w (qRes (C 57 [s0, v25, v30, v40] H) fun v41 H =>
qKeep z58 v11 H (qExt v41 0 fun v42 =>
qExt v41 1 fun v43 =>
qSt 4 v11 v42 H fun _ H =>
k [s0, s1, s2, s6, s7, s8, s9, s10, v11, v43, s17] H)))))))) : R))
noncomputable def r52_3 (k : KT R) : KT R := fun fr H => opn 11 fr (fun s0 s1 s2 s6 s7 s8 s9 s10 s11 s12 s17 => 
(qLenL s1 fun v16 =>
qLss X 3 s10 v16 fun v17 =>
k [s0, s1, s2, s6, s7, s8, s9, s10, s11, s12, v17] H : R))
noncomputable def l52_4 (C : CallF) (k1 : KT R) : KT R → KT R := fun k2 => (r52_3 (qCd (sel 10) (fun k4 => k4) (fun _ => k1) (qBl (fun k3 => (r52_5 C (r52_6 (r52_7 k3)))) (r52_4 k2))))
noncomputable def r52_2 (k : KT R) : KT R := fun fr H => opn 11 fr (fun s0 s1 s2 s6 s7 s8 s9 s10 s11 s12 s17 => 
(k [s0, s1, s2, s6, s7, s8, s9, (.int .i64 0), s11, s12, s17] H : R))
noncomputable def r52_1 (k : KT R) : KT R := fun fr H => opn 11 fr (fun s0 s1 s2 s6 s7 s8 s9 s10 s11 s12 s17 => 
(qBld z58 [(0, 1, (.int .i64 8))] fun v13 =>
qNew (.cells z58) .ptr H fun v8 H =>
qSt 4 v8 v13 H fun _ H =>
k [s0, s1, s2, s6, s7, v8, (.bool true), s10, s11, s12, s17] H : R))
noncomputable def r52_0 (k : KT R) : KT R := fun fr H => opn 11 fr (fun s0 s1 s2 s6 s7 s8 s9 s10 s11 s12 s17 => 
(qNew (.cells z58) .ptr H fun v6 H =>
k [s0, s1, s2, v6, (.bool false), s8, s9, s10, s11, s12, s17] H : R))
noncomputable def c52 (C : CallF) (l0 : List AV) (H : AH) (k : AV → AH → R) : R := opn 3 l0 (fun x0 x1 x2 => (qFn (fun kr => (r52_0 (r52_1 (r52_2 (qBl (fun k1 => (qLoop (l52_4 C k1))) (r52_8 kr))))))
(fun fr H => qPtr (sel 3 fr) (qLdA 4 (sel 3 fr) H fun w0 => k (.tup [w0, (sel 4 fr)]) H)) [x0, x1, x2, Aes.undef, Aes.undef, Aes.undef, Aes.undef, Aes.undef, Aes.undef, Aes.undef, Aes.undef] H : R))
/- refectory/refectoryref19.SamePath -/
noncomputable def r53_8 (k : KT R) : KT R := fun fr H => opn 7 fr (fun s0 s1 s4 s5 s10 s14 s40 => 
(k [s0, s1, (.bool true), s5, s10, s14, s40] H : R))
noncomputable def r53_5 (k : KT R) : KT R := fun fr H => opn 7 fr (fun s0 s1 s4 s5 s10 s14 s40 => 
(qAdd X 3 s5 (.int .i64 1) fun v16 =>
k [s0, s1, s4, v16, s10, s14, s40] H : R))
noncomputable def r53_7 (k : KT R) : KT R := fun fr H => opn 7 fr (fun s0 s1 s4 s5 s10 s14 s40 => 
(k [s0, s1, (.bool false), s5, s10, s14, s40] H : R))
noncomputable def r53_6 (k : KT R) : KT R := fun fr H => opn 7 fr (fun s0 s1 s4 s5 s10 s14 s40 => 
(qIa 2 s0 s5 fun v19 =>
qFa 0 v19 fun v20 =>
qLd v20 H fun v21 =>
qIa 2 s1 s5 fun v24 =>
qFa 0 v24 fun v25 =>
qLd v25 H fun v26 =>
qNeq X 9 v21 v26 fun v27 =>
qG v27 false (fun k => k s0 H) H fun v29 H =>
qG v27 false (fun k => k s5 H) H fun v30 H =>
qG v27 false (fun k => qIa 2 v29 v30 fun v => k v H) H fun v31 H =>
qG v27 false (fun k => qFa 1 v31 fun v => k v H) H fun v32 H =>
qG v27 false (fun k => qLd v32 H fun v => k v H) H fun v33 H =>
qG v27 false (fun k => k s1 H) H fun v34 H =>
qG v27 false (fun k => k s5 H) H fun v35 H =>
qG v27 false (fun k => qIa 2 v34 v35 fun v => k v H) H fun v36 H =>
qG v27 false (fun k => qFa 1 v36 fun v => k v H) H fun v37 H =>
qG v27 false (fun k => qLd v37 H fun v => k v H) H fun v38 H =>
qG v27 false (fun k => qNeq X 3 v33 v38 fun v => k v H) H fun v39 H =>
qPick v27 (.bool true) v39 fun v40 =>
k [s0, s1, s4, s5, s10, s14, v40] H : R))
noncomputable def r53_4 (k : KT R) : KT R := fun fr H => opn 7 fr (fun s0 s1 s4 s5 s10 s14 s40 => 
(qLenL s0 fun v13 =>
qLss X 3 s5 v13 fun v14 =>
k [s0, s1, s4, s5, s10, v14, s40] H : R))
noncomputable def l53_5 (k1 : KT R) (kr : KT R) : KT R → KT R := fun k2 => (r53_4 (qCd (sel 5) (fun k5 => k5) (fun _ => k1) (qBl (fun k3 => (r53_6 (qCd (sel 6) (fun _ => (r53_7 kr)) (fun k4 => k4) k3))) (r53_5 k2))))
noncomputable def r53_3 (k : KT R) : KT R := fun fr H => opn 7 fr (fun s0 s1 s4 s5 s10 s14 s40 => 
(k [s0, s1, s4, (.int .i64 0), s10, s14, s40] H : R))
noncomputable def r53_2 (k : KT R) : KT R := fun fr H => opn 7 fr (fun s0 s1 s4 s5 s10 s14 s40 => 
(k [s0, s1, (.bool false), s5, s10, s14, s40] H : R))
noncomputable def r53_1 (k : KT R) : KT R := fun fr H => opn 7 fr (fun s0 s1 s4 s5 s10 s14 s40 => 
(qLenL s0 fun v7 =>
qLenL s1 fun v9 =>
qNeq X 3 v7 v9 fun v10 =>
k [s0, s1, s4, s5, v10, s14, s40] H : R))
noncomputable def r53_0 (k : KT R) : KT R := fun fr H => opn 7 fr (fun s0 s1 s4 s5 s10 s14 s40 => 
(k [s0, s1, (.bool false), s5, s10, s14, s40] H : R))
noncomputable def c53 (C : CallF) (l0 : List AV) (H : AH) (k : AV → AH → R) : R := opn 2 l0 (fun x0 x1 => (qFn (fun kr => (r53_0 (r53_1 (qCd (sel 4) (fun _ => (r53_2 kr)) (fun k6 => k6) (r53_3 (qBl (fun k1 => (qLoop (l53_5 k1 kr))) (r53_8 kr)))))))
(fun fr H => k (sel 2 fr) H) [x0, x1, Aes.undef, Aes.undef, Aes.undef, Aes.undef, Aes.undef] H : R))
/- refectory/refectorylaw00.Digits -/
noncomputable def r54_1 (C : CallF) (k : KT R) : KT R := fun fr H => opn 2 fr (fun s0 s2 => 
(qRes (C 58 [s0] H) fun v4 H =>
k [s0, v4] H : R))
noncomputable def r54_0 (k : KT R) : KT R := fun fr H => opn 2 fr (fun s0 s2 => 
(k [s0, (.str [])] H : R))
noncomputable def c54 (C : CallF) (l0 : List AV) (H : AH) (k : AV → AH → R) : R := opn 1 l0 (fun x0 => (qFn (fun kr => (r54_0 (r54_1 C kr)))
(fun fr H => k (sel 1 fr) H) [x0, Aes.undef] H : R))
/- (*refectory/fill.finish).node -/
noncomputable def r55_16 (k : KT R) : KT R := fun fr H => opn 18 fr (fun s0 s1 s2 s3 s5 s6 s8 s9 s10 s11 s12 s20 s21 s25 s29 s36 s51 s62 => 
(qLdA 4 s8 H fun v66 =>
qSt 4 s8 v66 H fun _ H =>
k [s0, s1, s2, s3, s5, s6, s8, (.bool true), s10, s11, s12, s20, s21, s25, s29, s36, s51, s62] H : R))
noncomputable def r55_15 (C : CallF) (k : KT R) : KT R := fun fr H => opn 18 fr (fun s0 s1 s2 s3 s5 s6 s8 s9 s10 s11 s12 s20 s21 s25 s29 s36 s51 s62 => 
(qRes (C 50 [] H) fun v63 H =>
qNot s11 fun v65 =>
qSt 4 s8 v63 H fun _ H =>
k [s0, s1, s2, s3, s5, s6, s8, v65, s10, s11, s12, s20, s21, s25, s29, s36, s51, s62] H : R))
noncomputable def r55_14 (k : KT R) : KT R := fun fr H => opn 18 fr (fun s0 s1 s2 s3 s5 s6 s8 s9 s10 s11 s12 s20 s21 s25 s29 s36 s51 s62 => 
(qNot s12 fun v62 =>
k [s0, s1, s2, s3, s5, s6, s8, s9, s10, s11, s12, s20, s21, s25, s29, s36, s51, v62] H : R))
noncomputable def r55_7 (k : KT R) : KT R := fun fr H => opn 18 fr (fun s0 s1 s2 s3 s5 s6 s8 s9 s10 s11 s12 s20 s21 s25 s29 s36 s51 s62 => 
(qFa 4 s5 fun v27 =>
qLdA 4 v27 H fun v28 =>
qSt 4 s8 v28 H fun _ H =>
k [s0, s1, s2, s3, s5, s6, s8, (.bool true), s10, s11, s12, s20, s21, s25, s29, s36, s51, s62] H : R))
noncomputable def r55_9 (C : CallF) (k : KT R) : KT R := fun fr H => opn 18 fr (fun s0 s1 s2 s3 s5 s6 s8 s9 s10 s11 s12 s20 s21 s25 s29 s36 s51 s62 => 
(qFa 8 s5 fun v32 =>
qLd v32 H fun v33 =>
qRes (C 60 [s0, v33, s3] H) fun v35 H =>
k [s0, s1, s2, s3, s5, s6, s8, s9, s10, s11, s12, s20, s21, s25, s29, s36, s51, s62] H : R))
noncomputable def r55_11 (C : CallF) (k : KT R) : KT R := fun fr H => opn 18 fr (fun s0 s1 s2 s3 s5 s6 s8 s9 s10 s11 s12 s20 s21 s25 s29 s36 s51 s62 => 
(qFa 9 s5 fun v40 =>
qLd v40 H fun v41 =>
qFa 0 s6 fun v42 =>
qLd v42 H fun v43 =>
qRes (C 62 [s10, (.str [93])] H) fun v45 H =>
qLd v42 H fun w => qSame v43 w (qLd v40 H fun w => qSame v41 w (qBld z54 [(0, 1, v43), (1, 1, v45)] fun v46 =>
qRes (C 61 [s0, v41, v46, s3] H) fun v48 H =>
qExt v48 0 fun v49 =>
qExt v48 1 fun v50 =>
qSt 4 s8 v49 H fun _ H =>
k [s0, s1, s2, s3, s5, s6, s8, s9, s10, s11, v50, s20, s21, s25, s29, s36, s51, s62] H)) : R))
noncomputable def r55_13 (C : CallF) (k : KT R) : KT R := fun fr H => opn 18 fr (fun s0 s1 s2 s3 s5 s6 s8 s9 s10 s11 s12 s20 s21 s25 s29 s36 s51 s62 => 
(qFa 9 s5 fun v55 =>
qLd v55 H fun v56 =>
qRes (C 49 [s0, v56, s3] H) fun v58 H =>
qExt v58 0 fun v59 =>
qExt v58 1 fun v60 =>
qSt 4 s8 v59 H fun _ H =>
k [s0, s1, s2, s3, s5, s6, s8, s9, s10, s11, v60, s20, s21, s25, s29, s36, s51, s62] H : R))
noncomputable def r55_5 (C : CallF) (k : KT R) : KT R := fun fr H => opn 18 fr (fun s0 s1 s2 s3 s5 s6 s8 s9 s10 s11 s12 s20 s21 s25 s29 s36 s51 s62 => 
(qRes (C 60 [s0, (.str [78,85,76,76]), s3] H) fun v24 H =>
k [s0, s1, s2, s3, s5, s6, s8, s9, s10, s11, s12, s20, s21, s25, s29, s36, s51, s62] H : R))
noncomputable def r55_4 (k : KT R) : KT R := fun fr H => opn 18 fr (fun s0 s1 s2 s3 s5 s6 s8 s9 s10 s11 s12 s20 s21 s25 s29 s36 s51 s62 => 
(k [s0, s1, s2, s3, s5, s6, s8, s9, s10, s11, s12, s20, s11, s25, s29, s36, s51, s62] H : R))
noncomputable def r55_12 (k : KT R) : KT R := fun fr H => opn 18 fr (fun s0 s1 s2 s3 s5 s6 s8 s9 s10 s11 s12 s20 s21 s25 s29 s36 s51 s62 => 
(qEql X 3 s20 (.int .i64 5) fun v52 =>
k [s0, s1, s2, s3, s5, s6, s8, s9, s10, s11, s12, s20, s21, s25, s29, s36, v52, s62] H : R))
noncomputable def r55_10 (k : KT R) : KT R := fun fr H => opn 18 fr (fun s0 s1 s2 s3 s5 s6 s8 s9 s10 s11 s12 s20 s21 s25 s29 s36 s51 s62 => 
(qEql X 3 s20 (.int .i64 4) fun v37 =>
k [s0, s1, s2, s3, s5, s6, s8, s9, s10, s11, s12, s20, s21, s25, s29, v37, s51, s62] H : R))
noncomputable def r55_8 (k : KT R) : KT R := fun fr H => opn 18 fr (fun s0 s1 s2 s3 s5 s6 s8 s9 s10 s11 s12 s20 s21 s25 s29 s36 s51 s62 => 
(qEql X 3 s20 (.int .i64 3) fun v30 =>
k [s0, s1, s2, s3, s5, s6, s8, s9, s10, s11, s12, s20, s21, s25, v30, s36, s51, s62] H : R))
noncomputable def r55_6 (k : KT R) : KT R := fun fr H => opn 18 fr (fun s0 s1 s2 s3 s5 s6 s8 s9 s10 s11 s12 s20 s21 s25 s29 s36 s51 s62 => 
(qEql X 3 s20 (.int .i64 1) fun v26 =>
k [s0, s1, s2, s3, s5, s6, s8, s9, s10, s11, s12, s20, s21, v26, s29, s36, s51, s62] H : R))
noncomputable def r55_3 (k : KT R) : KT R := fun fr H => opn 18 fr (fun s0 s1 s2 s3 s5 s6 s8 s9 s10 s11 s12 s20 s21 s25 s29 s36 s51 s62 => 
(qFa 0 s5 fun v19 =>
qLd v19 H fun v20 =>
k [s0, s1, s2, s3, s5, s6, s8, s9, s10, s11, s12, v20, s21, s25, s29, s36, s51, s62] H : R))
noncomputable def r55_2 (k : KT R) : KT R := fun fr H => opn 18 fr (fun s0 s1 s2 s3 s5 s6 s8 s9 s10 s11 s12 s20 s21 s25 s29 s36 s51 s62 => 
(k [s0, s1, s2, s3, s5, s6, s8, s9, s10, s11, (.bool false), s20, s21, s25, s29, s36, s51, s62] H : R))
noncomputable def r55_1 (C : CallF) (k : KT R) : KT R := fun fr H => opn 18 fr (fun s0 s1 s2 s3 s5 s6 s8 s9 s10 s11 s12 s20 s21 s25 s29 s36 s51 s62 => 
(qFa 1 s6 fun v14 =>
qLd v14 H fun v15 =>
qRes (C 59 [v15, (.str [33])] H) fun v16 H =>
qExt v16 0 fun v17 =>
qExt v16 1 fun v18 =>
k [s0, s1, s2, s3, s5, s6, s8, s9, v17, v18, s12, s20, s21, s25, s29, s36, s51, s62] H : R))
noncomputable def r55_0 (k : KT R) : KT R := fun fr H => opn 18 fr (fun s0 s1 s2 s3 s5 s6 s8 s9 s10 s11 s12 s20 s21 s25 s29 s36 s51 s62 => 
(qBox s1 H fun v5 H =>
qBox s2 H fun v6 H =>
qNew (.cells z58) .ptr H fun v8 H =>
k [s0, s1, s2, s3, v5, v6, v8, (.bool false), s10, s11, s12, s20, s21, s25, s29, s36, s51, s62] H : R))
noncomputable def c55 (C : CallF) (l0 : List AV) (H : AH) (k : AV → AH → R) : R := opn 4 l0 (fun x0 x1 x2 x3 => (qFn (fun kr => (r55_0 (r55_1 C (r55_2 (r55_3 (qBl (fun k2 => (r55_6 (qCd (sel 13) (fun _ => (r55_7 kr)) (fun k3 => (r55_8 (qCd (sel 14) (fun k4 => (r55_9 C k4)) (fun k4 => (r55_10 (qCd (sel 15) (fun k5 => (r55_11 C k5)) (fun k5 => (r55_12 (qCd (sel 16) (fun k6 => (r55_13 C k6)) (fun k6 => (r55_4 (qCd (sel 12) (fun k7 => (r55_5 C k7)) (fun k7 => k7) k6))) k5))) k4))) k3))) k2))) (r55_14 (qCd (sel 17) (fun _ => (r55_15 C kr)) (fun k1 => k1) (r55_16 kr)))))))))
(fun fr H => qPtr (sel 6 fr) (qLdA 4 (sel 6 fr) H fun w0 => k (.tup [w0, (sel 7 fr)]) H)) [x0, x1, x2, x3, Aes.undef, Aes.undef, Aes.undef, Aes.undef, Aes.undef, Aes.undef, Aes.undef, Aes.undef, Aes.undef, Aes.undef, Aes.undef, Aes.undef, Aes.undef, Aes.undef] H : R))
/- slices.Clip[[]refectory/api.Step,refectory/api.Step] -/
noncomputable def r56_1 (k : KT R) : KT R := fun fr H => opn 2 fr (fun s0 s2 => 
(qLenL s0 fun v5 =>
qLenL s0 fun v7 =>
qSlc Try.t65.desc 2 s0 none (some v5) (some v7) fun v8 =>
k [s0, v8] H : R))
noncomputable def r56_0 (k : KT R) : KT R := fun fr H => opn 2 fr (fun s0 s2 => 
(k [s0, (.sl [] .nil)] H : R))
noncomputable def c56 (C : CallF) (l0 : List AV) (H : AH) (k : AV → AH → R) : R := opn 1 l0 (fun x0 => (qFn (fun kr => (r56_0 (r56_1 kr)))
(fun fr H => k (sel 1 fr) H) [x0, Aes.undef] H : R))
/- (*refectory/refectoryref19.F).one -/
noncomputable def r57_19 (k : KT R) : KT R := fun fr H => opn 19 fr (fun s0 s1 s2 s3 s5 s6 s8 s9 s10 s11 s12 s13 s20 s21 s27 s31 s40 s51 s62 => 
(qLdA 4 s12 H fun v65 =>
qSt 4 s8 v65 H fun _ H =>
k [s0, s1, s2, s3, s5, s6, s8, (.bool false), s10, s11, s12, s13, s20, s21, s27, s31, s40, s51, s62] H : R))
noncomputable def r57_18 (k : KT R) : KT R := fun fr H => opn 19 fr (fun s0 s1 s2 s3 s5 s6 s8 s9 s10 s11 s12 s13 s20 s21 s27 s31 s40 s51 s62 => 
(qLdA 4 s11 H fun v63 =>
qSt 4 s8 v63 H fun _ H =>
k [s0, s1, s2, s3, s5, s6, s8, s10, s10, s11, s12, s13, s20, s21, s27, s31, s40, s51, s62] H : R))
noncomputable def r57_17 (k : KT R) : KT R := fun fr H => opn 19 fr (fun s0 s1 s2 s3 s5 s6 s8 s9 s10 s11 s12 s13 s20 s21 s27 s31 s40 s51 s62 => 
(qNot s13 fun v62 =>
k [s0, s1, s2, s3, s5, s6, s8, s9, s10, s11, s12, s13, s20, s21, s27, s31, s40, s51, v62] H : R))
noncomputable def r57_9 (k : KT R) : KT R := fun fr H => opn 19 fr (fun s0 s1 s2 s3 s5 s6 s8 s9 s10 s11 s12 s13 s20 s21 s27 s31 s40 s51 s62 => 
(qFa 4 s5 fun v29 =>
qLdA 4 v29 H fun v30 =>
qSt 4 s8 v30 H fun _ H =>
k [s0, s1, s2, s3, s5, s6, s8, (.bool false), s10, s11, s12, s13, s20, s21, s27, s31, s40, s51, s62] H : R))
noncomputable def r57_12 (k : KT R) : KT R := fun fr H => opn 19 fr (fun s0 s1 s2 s3 s5 s6 s8 s9 s10 s11 s12 s13 s20 s21 s27 s31 s40 s51 s62 => 
(qLdA 4 s11 H fun v38 =>
qSt 4 s8 v38 H fun _ H =>
k [s0, s1, s2, s3, s5, s6, s8, s10, s10, s11, s12, s13, s20, s21, s27, s31, s40, s51, s62] H : R))
noncomputable def r57_11 (C : CallF) (k : KT R) : KT R := fun fr H => opn 19 fr (fun s0 s1 s2 s3 s5 s6 s8 s9 s10 s11 s12 s13 s20 s21 s27 s31 s40 s51 s62 => 
(qFa 8 s5 fun v34 =>
qLd v34 H fun v35 =>
qRes (C 64 [s0, v35, s3] H) fun v37 H =>
k [s0, s1, s2, s3, s5, s6, s8, s9, s10, s11, s12, s13, s20, s21, s27, s31, s40, s51, s62] H : R))
noncomputable def r57_14 (C : CallF) (k : KT R) : KT R := fun fr H => opn 19 fr (fun s0 s1 s2 s3 s5 s6 s8 s9 s10 s11 s12 s13 s20 s21 s27 s31 s40 s51 s62 => 
(qLdA 10 s5 H fun v44 =>
qLdA 2 s6 H fun v45 =>
qRes (C 66 [v45] H) fun v46 H =>
qLdA 10 s5 H fun w => qSame v44 w (qRes (C 65 [s0, v44, v46, s3] H) fun v48 H =>
qExt v48 0 fun v49 =>
qExt v48 1 fun v50 =>
qSt 4 s12 v49 H fun _ H =>
k [s0, s1, s2, s3, s5, s6, s8, s9, s10, s11, s12, v50, s20, s21, s27, s31, s40, s51, s62] H) : R))
noncomputable def r57_16 (C : CallF) (k : KT R) : KT R := fun fr H => opn 19 fr (fun s0 s1 s2 s3 s5 s6 s8 s9 s10 s11 s12 s13 s20 s21 s27 s31 s40 s51 s62 => 
(qFa 9 s5 fun v55 =>
qLd v55 H fun v56 =>
qRes (C 52 [s0, v56, s3] H) fun v58 H =>
qExt v58 0 fun v59 =>
qExt v58 1 fun v60 =>
qSt 4 s12 v59 H fun _ H =>
k [s0, s1, s2, s3, s5, s6, s8, s9, s10, s11, s12, v60, s20, s21, s27, s31, s40, s51, s62] H : R))
noncomputable def r57_7 (k : KT R) : KT R := fun fr H => opn 19 fr (fun s0 s1 s2 s3 s5 s6 s8 s9 s10 s11 s12 s13 s20 s21 s27 s31 s40 s51 s62 => 
(qLdA 4 s11 H fun v25 =>
qSt 4 s8 v25 H fun _ H =>
k [s0, s1, s2, s3, s5, s6, s8, s10, s10, s11, s12, s13, s20, s21, s27, s31, s40, s51, s62] H : R))
noncomputable def r57_6 (C : CallF) (k : KT R) : KT R := fun fr H => opn 19 fr (fun s0 s1 s2 s3 s5 s6 s8 s9 s10 s11 s12 s13 s20 s21 s27 s31 s40 s51 s62 => 
(qRes (C 64 [s0, (.str [78,85,76,76]), s3] H) fun v24 H =>
k [s0, s1, s2, s3, s5, s6, s8, s9, s10, s11, s12, s13, s20, s21, s27, s31, s40, s51, s62] H : R))
noncomputable def r57_5 (k : KT R) : KT R := fun fr H => opn 19 fr (fun s0 s1 s2 s3 s5 s6 s8 s9 s10 s11 s12 s13 s20 s21 s27 s31 s40 s51 s62 => 
(k [s0, s1, s2, s3, s5, s6, s8, s9, s10, s11, s12, s13, s20, s10, s27, s31, s40, s51, s62] H : R))
noncomputable def r57_15 (k : KT R) : KT R := fun fr H => opn 19 fr (fun s0 s1 s2 s3 s5 s6 s8 s9 s10 s11 s12 s13 s20 s21 s27 s31 s40 s51 s62 => 
(qEql X 3 s20 (.int .i64 5) fun v52 =>
k [s0, s1, s2, s3, s5, s6, s8, s9, s10, s11, s12, s13, s20, s21, s27, s31, s40, v52, s62] H : R))
noncomputable def r57_13 (k : KT R) : KT R := fun fr H => opn 19 fr (fun s0 s1 s2 s3 s5 s6 s8 s9 s10 s11 s12 s13 s20 s21 s27 s31 s40 s51 s62 => 
(qEql X 3 s20 (.int .i64 4) fun v41 =>
k [s0, s1, s2, s3, s5, s6, s8, s9, s10, s11, s12, s13, s20, s21, s27, s31, v41, s51, s62] H : R))
noncomputable def r57_10 (k : KT R) : KT R := fun fr H => opn 19 fr (fun s0 s1 s2 s3 s5 s6 s8 s9 s10 s11 s12 s13 s20 s21 s27 s31 s40 s51 s62 => 
(qEql X 3 s20 (.int .i64 3) fun v32 =>
k [s0, s1, s2, s3, s5, s6, s8, s9, s10, s11, s12, s13, s20, s21, s27, v32, s40, s51, s62] H : R))
noncomputable def r57_8 (k : KT R) : KT R := fun fr H => opn 19 fr (fun s0 s1 s2 s3 s5 s6 s8 s9 s10 s11 s12 s13 s20 s21 s27 s31 s40 s51 s62 => 
(qEql X 3 s20 (.int .i64 1) fun v28 =>
k [s0, s1, s2, s3, s5, s6, s8, s9, s10, s11, s12, s13, s20, s21, v28, s31, s40, s51, s62] H : R))
noncomputable def r57_4 (k : KT R) : KT R := fun fr H => opn 19 fr (fun s0 s1 s2 s3 s5 s6 s8 s9 s10 s11 s12 s13 s20 s21 s27 s31 s40 s51 s62 => 
(qFa 0 s5 fun v19 =>
qLd v19 H fun v20 =>
k [s0, s1, s2, s3, s5, s6, s8, s9, s10, s11, s12, s13, v20, s21, s27, s31, s40, s51, s62] H : R))
noncomputable def r57_3 (k : KT R) : KT R := fun fr H => opn 19 fr (fun s0 s1 s2 s3 s5 s6 s8 s9 s10 s11 s12 s13 s20 s21 s27 s31 s40 s51 s62 => 
(qLdA 4 s11 H fun v18 =>
qNew (.cells z58) .ptr H fun v12 H =>
qSt 4 v12 v18 H fun _ H =>
k [s0, s1, s2, s3, s5, s6, s8, s9, s10, s11, v12, (.bool true), s20, s21, s27, s31, s40, s51, s62] H : R))
noncomputable def r57_2 (k : KT R) : KT R := fun fr H => opn 19 fr (fun s0 s1 s2 s3 s5 s6 s8 s9 s10 s11 s12 s13 s20 s21 s27 s31 s40 s51 s62 => 
(qBld z58 [(0, 1, (.int .i64 1))] fun v17 =>
qNew (.cells z58) .ptr H fun v11 H =>
qSt 4 v11 v17 H fun _ H =>
k [s0, s1, s2, s3, s5, s6, s8, s9, s10, v11, s12, s13, s20, s21, s27, s31, s40, s51, s62] H : R))
noncomputable def r57_1 (C : CallF) (k : KT R) : KT R := fun fr H => opn 19 fr (fun s0 s1 s2 s3 s5 s6 s8 s9 s10 s11 s12 s13 s20 s21 s27 s31 s40 s51 s62 => 
(qLdA 2 s6 H fun v14 =>
qRes (C 63 [v14] H) fun v15 H =>
qEql X 5 v15 (.int .u8 33) fun v16 =>
k [s0, s1, s2, s3, s5, s6, s8, s9, v16, s11, s12, s13, s20, s21, s27, s31, s40, s51, s62] H : R))
noncomputable def r57_0 (k : KT R) : KT R := fun fr H => opn 19 fr (fun s0 s1 s2 s3 s5 s6 s8 s9 s10 s11 s12 s13 s20 s21 s27 s31 s40 s51 s62 => 
(qBox s1 H fun v5 H =>
qBox s2 H fun v6 H =>
qNew (.cells z58) .ptr H fun v8 H =>
k [s0, s1, s2, s3, v5, v6, v8, (.bool false), s10, s11, s12, s13, s20, s21, s27, s31, s40, s51, s62] H : R))
noncomputable def c57 (C : CallF) (l0 : List AV) (H : AH) (k : AV → AH → R) : R := opn 4 l0 (fun x0 x1 x2 x3 => (qFn (fun kr => (r57_0 (r57_1 C (r57_2 (r57_3 (r57_4 (qBl (fun k2 => (r57_8 (qCd (sel 14) (fun _ => (r57_9 kr)) (fun k3 => (r57_10 (qCd (sel 15) (fun _ => (r57_11 C (r57_12 kr))) (fun k4 => (r57_13 (qCd (sel 16) (fun k5 => (r57_14 C k5)) (fun k5 => (r57_15 (qCd (sel 17) (fun k6 => (r57_16 C k6)) (fun _ => (r57_5 (qCd (sel 13) (fun k7 => (r57_6 C k7)) (fun k7 => k7) (r57_7 kr)))) k5))) k4))) k3))) k2))) (r57_17 (qCd (sel 18) (fun _ => (r57_18 kr)) (fun k1 => k1) (r57_19 kr))))))))))
(fun fr H => qPtr (sel 6 fr) (qLdA 4 (sel 6 fr) H fun w0 => k (.tup [w0, (sel 7 fr)]) H)) [x0, x1, x2, x3, Aes.undef, Aes.undef, Aes.undef, Aes.undef, Aes.undef, Aes.undef, Aes.undef, Aes.undef, Aes.undef, Aes.undef, Aes.undef, Aes.undef, Aes.undef, Aes.undef, Aes.undef] H : R))
/- refectory/refectoryref08.Digits -/
noncomputable def r58_8 (C : CallF) (k : KT R) : KT R := fun fr H => opn 6 fr (fun s0 s2 s3 s4 s18 s28 => 
(qQuo X 3 s0 (.int .i64 10) fun v36 =>
qRem X 3 s0 (.int .i64 10) fun v39 =>
qRem X 3 s0 (.int .i64 10) fun v41 =>
qAdd X 3 v41 (.int .i64 1) fun v42 =>
qSlc Try.t9.desc 0 (.str [48,49,50,51,52,53,54,55,56,57]) (some v39) (some v42) none fun v43 =>
qRes (C 58 [v36] H) fun v37 H =>
qAdd X 9 v37 v43 fun v44 =>
k [s0, v44, s3, s4, s18, s28] H : R))
noncomputable def r58_3 (C : CallF) (k : KT R) : KT R := fun fr H => opn 6 fr (fun s0 s2 s3 s4 s18 s28 => 
(qQuo X 3 s0 (.int .i64 10) fun v11 =>
qAdd X 3 s3 (.int .i64 1) fun v15 =>
qSlc Try.t9.desc 0 (.str [48,49,50,51,52,53,54,55,56,57]) (some s3) (some v15) none fun v16 =>
qRes (C 58 [v11] H) fun v12 H =>
qAdd X 9 v12 v16 fun v17 =>
k [s0, v17, s3, s4, s18, s28] H : R))
noncomputable def r58_2 (k : KT R) : KT R := fun fr H => opn 6 fr (fun s0 s2 s3 s4 s18 s28 => 
(qRem X 3 s0 (.int .i64 10) fun v8 =>
qUn .neg v8 fun v9 =>
k [s0, s2, v9, s4, s18, s28] H : R))
noncomputable def r58_5 (k : KT R) : KT R := fun fr H => opn 6 fr (fun s0 s2 s3 s4 s18 s28 => 
(qUn .neg s0 fun v22 =>
qUn .neg s0 fun v24 =>
qAdd X 3 v24 (.int .i64 1) fun v25 =>
qSlc Try.t9.desc 0 (.str [48,49,50,51,52,53,54,55,56,57]) (some v22) (some v25) none fun v26 =>
qAdd X 9 (.str [45]) v26 fun v27 =>
k [s0, v27, s3, s4, s18, s28] H : R))
noncomputable def r58_7 (k : KT R) : KT R := fun fr H => opn 6 fr (fun s0 s2 s3 s4 s18 s28 => 
(qAdd X 3 s0 (.int .i64 1) fun v33 =>
qSlc Try.t9.desc 0 (.str [48,49,50,51,52,53,54,55,56,57]) (some s0) (some v33) none fun v34 =>
k [s0, v34, s3, s4, s18, s28] H : R))
noncomputable def r58_6 (k : KT R) : KT R := fun fr H => opn 6 fr (fun s0 s2 s3 s4 s18 s28 => 
(qLss X 3 s0 (.int .i64 10) fun v30 =>
k [s0, s2, s3, s4, s18, v30] H : R))
noncomputable def r58_4 (k : KT R) : KT R := fun fr H => opn 6 fr (fun s0 s2 s3 s4 s18 s28 => 
(qLss X 3 s0 (.int .i64 0) fun v20 =>
k [s0, s2, s3, s4, v20, s28] H : R))
noncomputable def r58_1 (k : KT R) : KT R := fun fr H => opn 6 fr (fun s0 s2 s3 s4 s18 s28 => 
(qLeq X 3 s0 (.int .i64 (-10)) fun v6 =>
k [s0, s2, s3, v6, s18, s28] H : R))
noncomputable def r58_0 (k : KT R) : KT R := fun fr H => opn 6 fr (fun s0 s2 s3 s4 s18 s28 => 
(k [s0, (.str []), s3, s4, s18, s28] H : R))
noncomputable def c58 (C : CallF) (l0 : List AV) (H : AH) (k : AV → AH → R) : R := opn 1 l0 (fun x0 => (qFn (fun kr => (r58_0 (qBl (fun k1 => (r58_1 (qCd (sel 3) (fun _ => (r58_2 (r58_3 C kr))) (fun k2 => (r58_4 (qCd (sel 4) (fun _ => (r58_5 kr)) (fun k3 => (r58_6 (qCd (sel 5) (fun _ => (r58_7 kr)) (fun k4 => k4) k3))) k2))) k1))) (r58_8 C kr))))
(fun fr H => k (sel 1 fr) H) [x0, Aes.undef, Aes.undef, Aes.undef, Aes.undef, Aes.undef] H : R))
/- strings.CutSuffix -/
noncomputable def r59_1 (C : CallF) (k : KT R) : KT R := fun fr H => opn 4 fr (fun s0 s1 s4 s5 => 
(qRes (C 67 [s0, s1] H) fun v8 H =>
qExt v8 0 fun v9 =>
qExt v8 1 fun v10 =>
k [s0, s1, v9, v10] H : R))
noncomputable def r59_0 (k : KT R) : KT R := fun fr H => opn 4 fr (fun s0 s1 s4 s5 => 
(k [s0, s1, (.str []), (.bool false)] H : R))
noncomputable def c59 (C : CallF) (l0 : List AV) (H : AH) (k : AV → AH → R) : R := opn 2 l0 (fun x0 x1 => (qFn (fun kr => (r59_0 (r59_1 C kr)))
(fun fr H => k (.tup [(sel 2 fr), (sel 3 fr)]) H) [x0, x1, Aes.undef, Aes.undef] H : R))
/- (*refectory/fill.finish).put -/
noncomputable def r60_0 (C : CallF) (k : KT R) : KT R := fun fr H => opn 3 fr (fun s0 s1 s2 => 
(qNc s0 fun v8 =>
qFa 0 v8 fun v9 =>
qLd v9 H fun v10 =>
qRes (C 68 [s2] H) fun v13 H =>
qLd v9 H fun w => qSame v10 w (qBld z67 [(0, 1, s1), (1, 1, v13)] fun v14 =>
qRows z67 1 [(0, v14)] fun v15 =>
qApp 2 40 v10 v15 false H fun v16 H =>
qNc s0 fun v17 =>
qFa 0 v17 fun v18 =>
qSt 1 v18 v16 H fun _ H =>
k [s0, s1, s2] H) : R))
noncomputable def c60 (C : CallF) (l0 : List AV) (H : AH) (k : AV → AH → R) : R := opn 3 l0 (fun x0 x1 x2 => (qFn (fun kr => (r60_0 C kr))
(fun fr H => k (.tup []) H) [x0, x1, x2] H : R))
/- (*refectory/fill.finish).items -/
noncomputable def r61_10 (k : KT R) : KT R := fun fr H => opn 17 fr (fun s0 s1 s2 s3 s6 s8 s9 s10 s11 s12 s13 s14 s15 s17 s18 s19 s20 => 
(qLdA 4 s10 H fun v48 =>
qSt 4 s8 v48 H fun _ H =>
k [s0, s1, s2, s3, s6, s8, s11, s10, s11, s12, s13, s14, s15, s17, s18, s19, s20] H : R))
noncomputable def r61_9 (k : KT R) : KT R := fun fr H => opn 17 fr (fun s0 s1 s2 s3 s6 s8 s9 s10 s11 s12 s13 s14 s15 s17 s18 s19 s20 => 
(qAdd X 3 s19 (.int .i64 1) fun v47 =>
k [s0, s1, s2, s3, s6, s8, s9, s10, s11, s12, s13, s14, s15, s17, s18, v47, s20] H : R))
noncomputable def r61_8 (k : KT R) : KT R := fun fr H => opn 17 fr (fun s0 s1 s2 s3 s6 s8 s9 s10 s11 s12 s13 s14 s15 s17 s18 s19 s20 => 
(qG s11 true (fun k => k s15 H) H fun v45 H =>
qPick s11 v45 (.bool false) fun v46 =>
k [s0, s1, s2, s3, s6, s8, s9, s10, v46, s12, s13, s14, s15, s17, s18, s19, s20] H : R))
noncomputable def r61_7 (k : KT R) : KT R := fun fr H => opn 17 fr (fun s0 s1 s2 s3 s6 s8 s9 s10 s11 s12 s13 s14 s15 s17 s18 s19 s20 => 
(qFa 3 s10 fun v37 =>
qLd v37 H fun v38 =>
qLdA 4 s14 H fun v39 =>
qRows z58 1 [(0, v39)] fun v40 =>
qApp 4 72 v38 v40 false H fun v41 H =>
qFa 3 s10 fun v42 =>
qSt 1 v42 v41 H fun _ H =>
k [s0, s1, s2, s3, s6, s8, s9, s10, s11, s12, s13, s14, s15, s17, s18, s19, s20] H : R))
noncomputable def r61_6 (C : CallF) (k : KT R) : KT R := fun fr H => opn 17 fr (fun s0 s1 s2 s3 s6 s8 s9 s10 s11 s12 s13 s14 s15 s17 s18 s19 s20 => 
(qLdA 10 s13 H fun v26 =>
qLdA 2 s6 H fun v27 =>
qBld z72 [(1, 1, s12)] fun v31 =>
qRows z72 1 [(0, v31)] fun v32 =>
qNew (.cells z58) .ptr H fun v14 H =>
qRes (C 56 [s3] H) fun v29 H =>
qKeep z58 v14 H (qLdA 2 s6 H fun w => qSame v27 w (qLdA 10 s13 H fun w => qSame v26 w (qApp 2 24 v29 v32 false H fun v33 H =>
qKeep z58 v14 H (qLdA 2 s6 H fun w => qSame v27 w (qLdA 10 s13 H fun w => qSame v26 w (qRes (C 55 [s0, v26, v27, v33] H) fun v34 H =>
qKeep z58 v14 H (qExt v34 0 fun v35 =>
qExt v34 1 fun v36 =>
qSt 4 v14 v35 H fun _ H =>
k [s0, s1, s2, s3, s6, s8, s9, s10, s11, s12, s13, v14, v36, s17, s18, s19, s20] H))))))) : R))
noncomputable def r61_5 (k : KT R) : KT R := fun fr H => opn 17 fr (fun s0 s1 s2 s3 s6 s8 s9 s10 s11 s12 s13 s14 s15 s17 s18 s19 s20 => 
(qIa 10 s17 s19 fun v22 =>
qLdA 10 v22 H fun v23 =>
qNew (.cells z61) .ptr H fun v13 H =>
qSt 10 v13 v23 H fun _ H =>
k [s0, s1, s2, s3, s6, s8, s9, s10, s11, s19, v13, s14, s15, s17, s18, s19, s20] H : R))
noncomputable def r61_4 (k : KT R) : KT R := fun fr H => opn 17 fr (fun s0 s1 s2 s3 s6 s8 s9 s10 s11 s12 s13 s14 s15 s17 s18 s19 s20 => 
(qLss X 3 s19 s18 fun v20 =>
k [s0, s1, s2, s3, s6, s8, s9, s10, s11, s12, s13, s14, s15, s17, s18, s19, v20] H : R))
noncomputable def l61_4 (C : CallF) (k1 : KT R) : KT R → KT R := fun k2 => (r61_4 (qCd (sel 16) (fun k4 => k4) (fun _ => k1) (qBl (fun k3 => (r61_5 (r61_6 C (r61_7 (r61_8 k3))))) (r61_9 k2))))
noncomputable def r61_3 (k : KT R) : KT R := fun fr H => opn 17 fr (fun s0 s1 s2 s3 s6 s8 s9 s10 s11 s12 s13 s14 s15 s17 s18 s19 s20 => 
(qLenL s1 fun v18 =>
k [s0, s1, s2, s3, s6, s8, s9, s10, s11, s12, s13, s14, s15, s1, v18, (.int .i64 0), s20] H : R))
noncomputable def r61_2 (k : KT R) : KT R := fun fr H => opn 17 fr (fun s0 s1 s2 s3 s6 s8 s9 s10 s11 s12 s13 s14 s15 s17 s18 s19 s20 => 
(k [s0, s1, s2, s3, s6, s8, s9, s10, (.bool true), s12, s13, s14, s15, s17, s18, s19, s20] H : R))
noncomputable def r61_1 (k : KT R) : KT R := fun fr H => opn 17 fr (fun s0 s1 s2 s3 s6 s8 s9 s10 s11 s12 s13 s14 s15 s17 s18 s19 s20 => 
(qBld z58 [(0, 1, (.int .i64 7))] fun v16 =>
qNew (.cells z58) .ptr H fun v10 H =>
qSt 4 v10 v16 H fun _ H =>
k [s0, s1, s2, s3, s6, s8, s9, v10, s11, s12, s13, s14, s15, s17, s18, s19, s20] H : R))
noncomputable def r61_0 (k : KT R) : KT R := fun fr H => opn 17 fr (fun s0 s1 s2 s3 s6 s8 s9 s10 s11 s12 s13 s14 s15 s17 s18 s19 s20 => 
(qBox s2 H fun v6 H =>
qNew (.cells z58) .ptr H fun v8 H =>
k [s0, s1, s2, s3, v6, v8, (.bool false), s10, s11, s12, s13, s14, s15, s17, s18, s19, s20] H : R))
noncomputable def c61 (C : CallF) (l0 : List AV) (H : AH) (k : AV → AH → R) : R := opn 4 l0 (fun x0 x1 x2 x3 => (qFn (fun kr => (r61_0 (r61_1 (r61_2 (r61_3 (qBl (fun k1 => (qLoop (l61_4 C k1))) (r61_10 kr)))))))
(fun fr H => qPtr (sel 5 fr) (qLdA 4 (sel 5 fr) H fun w0 => k (.tup [w0, (sel 6 fr)]) H)) [x0, x1, x2, x3, Aes.undef, Aes.undef, Aes.undef, Aes.undef, Aes.undef, Aes.undef, Aes.undef, Aes.undef, Aes.undef, Aes.undef, Aes.undef, Aes.undef, Aes.undef] H : R))
/- strings.TrimSuffix -/
noncomputable def r62_1 (C : CallF) (k : KT R) : KT R := fun fr H => opn 3 fr (fun s0 s1 s4 => 
(qRes (C 69 [s0, s1] H) fun v7 H =>
k [s0, s1, v7] H : R))
noncomputable def r62_0 (k : KT R) : KT R := fun fr H => opn 3 fr (fun s0 s1 s4 => 
(k [s0, s1, (.str [])] H : R))
noncomputable def c62 (C : CallF) (l0 : List AV) (H : AH) (k : AV → AH → R) : R := opn 2 l0 (fun x0 x1 => (qFn (fun kr => (r62_0 (r62_1 C kr)))
(fun fr H => k (sel 2 fr) H) [x0, x1, Aes.undef] H : R))
/- refectory/refectoryref09.Last -/
noncomputable def r63_3 (k : KT R) : KT R := fun fr H => opn 4 fr (fun s0 s1 s2 s5 => 
(qFa 1 s1 fun v6 =>
qLd v6 H fun v7 =>
qFa 1 s1 fun v8 =>
qLd v8 H fun v9 =>
qLenS v9 fun v10 =>
qSub X 3 v10 (.int .i64 1) fun v11 =>
qIx v7 v11 fun v12 =>
k [s0, s1, v12, s5] H : R))
noncomputable def r63_2 (k : KT R) : KT R := fun fr H => opn 4 fr (fun s0 s1 s2 s5 => 
(k [s0, s1, (.int .u8 0), s5] H : R))
noncomputable def r63_1 (k : KT R) : KT R := fun fr H => opn 4 fr (fun s0 s1 s2 s5 => 
(qFa 1 s1 fun v3 =>
qLd v3 H fun v4 =>
qEql X 9 v4 (.str []) fun v5 =>
k [s0, s1, s2, v5] H : R))
noncomputable def r63_0 (k : KT R) : KT R := fun fr H => opn 4 fr (fun s0 s1 s2 s5 => 
(qBox s0 H fun v1 H =>
k [s0, v1, (.int .u8 0), s5] H : R))
noncomputable def c63 (C : CallF) (l0 : List AV) (H : AH) (k : AV → AH → R) : R := opn 1 l0 (fun x0 => (qFn (fun kr => (r63_0 (r63_1 (qCd (sel 3) (fun _ => (r63_2 kr)) (fun k1 => k1) (r63_3 kr)))))
(fun fr H => k (sel 2 fr) H) [x0, Aes.undef, Aes.undef, Aes.undef] H : R))
/- (*refectory/refectoryref19.F).tell -/
noncomputable def r64_0 (k : KT R) : KT R := fun fr H => opn 3 fr (fun s0 s1 s2 => 
(qNc s0 fun v8 =>
qFa 0 v8 fun v9 =>
qLd v9 H fun v10 =>
qApp 2 24 (.sl [] .nil) s2 false H fun v13 H =>
qLd v9 H fun w => qSame v10 w (qBld z67 [(0, 1, s1), (1, 1, v13)] fun v14 =>
qRows z67 1 [(0, v14)] fun v15 =>
qApp 2 40 v10 v15 false H fun v16 H =>
qNc s0 fun v17 =>
qFa 0 v17 fun v18 =>
qSt 1 v18 v16 H fun _ H =>
k [s0, s1, s2] H) : R))
noncomputable def c64 (C : CallF) (l0 : List AV) (H : AH) (k : AV → AH → R) : R := opn 3 l0 (fun x0 x1 x2 => (qFn (fun kr => (r64_0 kr))
(fun fr H => k (.tup []) H) [x0, x1, x2] H : R))
/- (*refectory/refectoryref19.F).list -/
noncomputable def r65_10 (k : KT R) : KT R := fun fr H => opn 15 fr (fun s0 s1 s2 s3 s5 s6 s8 s9 s10 s11 s12 s13 s14 s17 s25 => 
(qLdA 4 s10 H fun v56 =>
qSt 4 s8 v56 H fun _ H =>
k [s0, s1, s2, s3, s5, s6, s8, s11, s10, s11, s12, s13, s14, s17, s25] H : R))
noncomputable def r65_6 (k : KT R) : KT R := fun fr H => opn 15 fr (fun s0 s1 s2 s3 s5 s6 s8 s9 s10 s11 s12 s13 s14 s17 s25 => 
(qAdd X 3 s12 (.int .i64 1) fun v27 =>
k [s0, s1, s2, s3, s5, s6, s8, s9, s10, s11, v27, s13, s14, s17, s25] H : R))
noncomputable def r65_9 (k : KT R) : KT R := fun fr H => opn 15 fr (fun s0 s1 s2 s3 s5 s6 s8 s9 s10 s11 s12 s13 s14 s17 s25 => 
(qG s11 true (fun k => k s14 H) H fun v53 H =>
qG s11 true (fun k => qNot v53 fun v => k v H) H fun v54 H =>
qPick s11 v54 (.bool false) fun v55 =>
k [s0, s1, s2, s3, s5, s6, s8, s9, s10, v55, s12, s13, s14, s17, s25] H : R))
noncomputable def r65_8 (k : KT R) : KT R := fun fr H => opn 15 fr (fun s0 s1 s2 s3 s5 s6 s8 s9 s10 s11 s12 s13 s14 s17 s25 => 
(qFa 3 s10 fun v45 =>
qLd v45 H fun v46 =>
qLdA 4 s13 H fun v47 =>
qRows z58 1 [(0, v47)] fun v48 =>
qApp 4 72 v46 v48 false H fun v49 H =>
qFa 3 s10 fun v50 =>
qSt 1 v50 v49 H fun _ H =>
k [s0, s1, s2, s3, s5, s6, s8, s9, s10, s11, s12, s13, s14, s17, s25] H : R))
noncomputable def r65_7 (C : CallF) (k : KT R) : KT R := fun fr H => opn 15 fr (fun s0 s1 s2 s3 s5 s6 s8 s9 s10 s11 s12 s13 s14 s17 s25 => 
(qFa 9 s5 fun v30 =>
qLd v30 H fun v31 =>
qIa 10 v31 s12 fun v33 =>
qLdA 10 v33 H fun v34 =>
qLdA 2 s6 H fun v35 =>
qBld z72 [(1, 1, s12)] fun v39 =>
qRows z72 1 [(0, v39)] fun v40 =>
qNew (.cells z58) .ptr H fun v13 H =>
qApp 2 24 (.sl [] .nil) s3 false H fun v37 H =>
qKeep z58 v13 H (qLdA 2 s6 H fun w => qSame v35 w (qLdA 10 v33 H fun w => qSame v34 w (qLd v30 H fun w => qSame v31 w (qApp 2 24 v37 v40 false H fun v41 H =>
qKeep z58 v13 H (qLdA 2 s6 H fun w => qSame v35 w (qLdA 10 v33 H fun w => qSame v34 w (qLd v30 H fun w => qSame v31 w (qRes (C 57 [s0, v34, v35, v41] H) fun v42 H =>
qKeep z58 v13 H (qExt v42 0 fun v43 =>
qExt v42 1 fun v44 =>
qSt 4 v13 v43 H fun _ H =>
k [s0, s1, s2, s3, s5, s6, s8, s9, s10, s11, s12, v13, v44, s17, s25] H))))))))) : R))
noncomputable def r65_5 (k : KT R) : KT R := fun fr H => opn 15 fr (fun s0 s1 s2 s3 s5 s6 s8 s9 s10 s11 s12 s13 s14 s17 s25 => 
(qFa 9 s5 fun v22 =>
qLd v22 H fun v23 =>
qLenL v23 fun v24 =>
qLss X 3 s12 v24 fun v25 =>
k [s0, s1, s2, s3, s5, s6, s8, s9, s10, s11, s12, s13, s14, s17, v25] H : R))
noncomputable def l65_4 (C : CallF) (k1 : KT R) : KT R → KT R := fun k2 => (r65_5 (qCd (sel 14) (fun k4 => k4) (fun _ => k1) (qBl (fun k3 => (r65_7 C (r65_8 (r65_9 k3)))) (r65_6 k2))))
noncomputable def r65_4 (k : KT R) : KT R := fun fr H => opn 15 fr (fun s0 s1 s2 s3 s5 s6 s8 s9 s10 s11 s12 s13 s14 s17 s25 => 
(k [s0, s1, s2, s3, s5, s6, s8, s9, s10, s11, (.int .i64 0), s13, s14, s17, s25] H : R))
noncomputable def r65_3 (k : KT R) : KT R := fun fr H => opn 15 fr (fun s0 s1 s2 s3 s5 s6 s8 s9 s10 s11 s12 s13 s14 s17 s25 => 
(qBld z58 [(0, 1, (.int .i64 7))] fun v20 =>
qNew (.cells z58) .ptr H fun v10 H =>
qSt 4 v10 v20 H fun _ H =>
k [s0, s1, s2, s3, s5, s6, s8, s9, v10, (.bool true), s12, s13, s14, s17, s25] H : R))
noncomputable def r65_2 (C : CallF) (k : KT R) : KT R := fun fr H => opn 15 fr (fun s0 s1 s2 s3 s5 s6 s8 s9 s10 s11 s12 s13 s14 s17 s25 => 
(qLdA 2 s6 H fun v18 =>
qRes (C 70 [v18] H) fun v19 H =>
qSt 2 s6 v19 H fun _ H =>
k [s0, s1, s2, s3, s5, s6, s8, s9, s10, s11, s12, s13, s14, s17, s25] H : R))
noncomputable def r65_1 (C : CallF) (k : KT R) : KT R := fun fr H => opn 15 fr (fun s0 s1 s2 s3 s5 s6 s8 s9 s10 s11 s12 s13 s14 s17 s25 => 
(qLdA 2 s6 H fun v15 =>
qRes (C 63 [v15] H) fun v16 H =>
qEql X 5 v16 (.int .u8 93) fun v17 =>
k [s0, s1, s2, s3, s5, s6, s8, s9, s10, s11, s12, s13, s14, v17, s25] H : R))
noncomputable def r65_0 (k : KT R) : KT R := fun fr H => opn 15 fr (fun s0 s1 s2 s3 s5 s6 s8 s9 s10 s11 s12 s13 s14 s17 s25 => 
(qBox s1 H fun v5 H =>
qBox s2 H fun v6 H =>
qNew (.cells z58) .ptr H fun v8 H =>
k [s0, s1, s2, s3, v5, v6, v8, (.bool false), s10, s11, s12, s13, s14, s17, s25] H : R))
noncomputable def c65 (C : CallF) (l0 : List AV) (H : AH) (k : AV → AH → R) : R := opn 4 l0 (fun x0 x1 x2 x3 => (qFn (fun kr => (r65_0 (r65_1 C (qCd (sel 13) (fun k5 => (r65_2 C k5)) (fun k5 => k5) (r65_3 (r65_4 (qBl (fun k1 => (qLoop (l65_4 C k1))) (r65_10 kr))))))))
(fun fr H => qPtr (sel 6 fr) (qLdA 4 (sel 6 fr) H fun w0 => k (.tup [w0, (sel 7 fr)]) H)) [x0, x1, x2, x3, Aes.undef, Aes.undef, Aes.undef, Aes.undef, Aes.undef, Aes.undef, Aes.undef, Aes.undef, Aes.undef, Aes.undef, Aes.undef] H : R))
/- refectory/refectoryref09.Bare -/
noncomputable def r66_3 (k : KT R) : KT R := fun fr H => opn 4 fr (fun s0 s1 s2 s5 => 
(qLdA 2 s1 H fun v8 =>
qSt 2 s2 v8 H fun _ H =>
k [s0, s1, s2, s5] H : R))
noncomputable def r66_2 (C : CallF) (k : KT R) : KT R := fun fr H => opn 4 fr (fun s0 s1 s2 s5 => 
(qLdA 2 s1 H fun v6 =>
qRes (C 70 [v6] H) fun v7 H =>
qSt 2 s2 v7 H fun _ H =>
k [s0, s1, s2, s5] H : R))
noncomputable def r66_1 (C : CallF) (k : KT R) : KT R := fun fr H => opn 4 fr (fun s0 s1 s2 s5 => 
(qLdA 2 s1 H fun v3 =>
qRes (C 63 [v3] H) fun v4 H =>
qEql X 5 v4 (.int .u8 33) fun v5 =>
k [s0, s1, s2, v5] H : R))
noncomputable def r66_0 (k : KT R) : KT R := fun fr H => opn 4 fr (fun s0 s1 s2 s5 => 
(qBox s0 H fun v1 H =>
qNew (.cells z54) .ptr H fun v2 H =>
k [s0, v1, v2, s5] H : R))
noncomputable def c66 (C : CallF) (l0 : List AV) (H : AH) (k : AV → AH → R) : R := opn 1 l0 (fun x0 => (qFn (fun kr => (r66_0 (r66_1 C (qCd (sel 3) (fun _ => (r66_2 C kr)) (fun k1 => k1) (r66_3 kr)))))
(fun fr H => qPtr (sel 2 fr) (qLdA 2 (sel 2 fr) H fun w0 => k w0 H)) [x0, Aes.undef, Aes.undef, Aes.undef] H : R))
/- internal/stringslite.CutSuffix -/
noncomputable def r67_3 (k : KT R) : KT R := fun fr H => opn 5 fr (fun s0 s1 s4 s5 s9 => 
(qLenS s0 fun v13 =>
qLenS s1 fun v15 =>
qSub X 3 v13 v15 fun v16 =>
qSlc Try.t9.desc 0 s0 none (some v16) none fun v17 =>
k [s0, s1, v17, (.bool true), s9] H : R))
noncomputable def r67_2 (k : KT R) : KT R := fun fr H => opn 5 fr (fun s0 s1 s4 s5 s9 => 
(k [s0, s1, s0, (.bool false), s9] H : R))
noncomputable def r67_1 (C : CallF) (k : KT R) : KT R := fun fr H => opn 5 fr (fun s0 s1 s4 s5 s9 => 
(qRes (C 71 [s0, s1] H) fun v8 H =>
qNot v8 fun v9 =>
k [s0, s1, s4, s5, v9] H : R))
noncomputable def r67_0 (k : KT R) : KT R := fun fr H => opn 5 fr (fun s0 s1 s4 s5 s9 => 
(k [s0, s1, (.str []), (.bool false), s9] H : R))
noncomputable def c67 (C : CallF) (l0 : List AV) (H : AH) (k : AV → AH → R) : R := opn 2 l0 (fun x0 x1 => (qFn (fun kr => (r67_0 (r67_1 C (qCd (sel 4) (fun _ => (r67_2 kr)) (fun k1 => k1) (r67_3 kr)))))
(fun fr H => k (.tup [(sel 2 fr), (sel 3 fr)]) H) [x0, x1, Aes.undef, Aes.undef, Aes.undef] H : R))
/- slices.Clone[[]refectory/api.Step,refectory/api.Step] -/
noncomputable def r68_3 (k : KT R) : KT R := fun fr H => opn 3 fr (fun s0 s2 s4 => 
(qRows z72 0 [] fun v5 =>
qApp 2 24 v5 s0 false H fun v7 H =>
k [s0, v7, s4] H : R))
noncomputable def r68_2 (k : KT R) : KT R := fun fr H => opn 3 fr (fun s0 s2 s4 => 
(k [s0, (.sl [] .nil), s4] H : R))
noncomputable def r68_1 (k : KT R) : KT R := fun fr H => opn 3 fr (fun s0 s2 s4 => 
(qEql X 65 s0 (.sl [] .nil) fun v4 =>
k [s0, s2, v4] H : R))
noncomputable def r68_0 (k : KT R) : KT R := fun fr H => opn 3 fr (fun s0 s2 s4 => 
(k [s0, (.sl [] .nil), s4] H : R))
noncomputable def c68 (C : CallF) (l0 : List AV) (H : AH) (k : AV → AH → R) : R := opn 1 l0 (fun x0 => (qFn (fun kr => (r68_0 (r68_1 (qCd (sel 2) (fun _ => (r68_2 kr)) (fun k1 => k1) (r68_3 kr)))))
(fun fr H => k (sel 1 fr) H) [x0, Aes.undef, Aes.undef] H : R))
/- internal/stringslite.TrimSuffix -/
noncomputable def r69_3 (k : KT R) : KT R := fun fr H => opn 4 fr (fun s0 s1 s4 s7 => 
(k [s0, s1, s0, s7] H : R))
noncomputable def r69_2 (k : KT R) : KT R := fun fr H => opn 4 fr (fun s0 s1 s4 s7 => 
(qLenS s0 fun v10 =>
qLenS s1 fun v12 =>
qSub X 3 v10 v12 fun v13 =>
qSlc Try.t9.desc 0 s0 none (some v13) none fun v14 =>
k [s0, s1, v14, s7] H : R))
noncomputable def r69_1 (C : CallF) (k : KT R) : KT R := fun fr H => opn 4 fr (fun s0 s1 s4 s7 => 
(qRes (C 71 [s0, s1] H) fun v7 H =>
k [s0, s1, s4, v7] H : R))
noncomputable def r69_0 (k : KT R) : KT R := fun fr H => opn 4 fr (fun s0 s1 s4 s7 => 
(k [s0, s1, (.str []), s7] H : R))
noncomputable def c69 (C : CallF) (l0 : List AV) (H : AH) (k : AV → AH → R) : R := opn 2 l0 (fun x0 x1 => (qFn (fun kr => (r69_0 (r69_1 C (qCd (sel 3) (fun _ => (r69_2 kr)) (fun k1 => k1) (r69_3 kr)))))
(fun fr H => k (sel 2 fr) H) [x0, x1, Aes.undef, Aes.undef] H : R))
/- refectory/refectoryref09.Inner -/
noncomputable def r70_3 (k : KT R) : KT R := fun fr H => opn 4 fr (fun s0 s1 s2 s5 => 
(qFa 0 s1 fun v7 =>
qLd v7 H fun v8 =>
qFa 1 s1 fun v9 =>
qLd v9 H fun v10 =>
qFa 1 s1 fun v11 =>
qLd v11 H fun v12 =>
qLenS v12 fun v13 =>
qSub X 3 v13 (.int .i64 1) fun v14 =>
qSlc Try.t9.desc 0 v10 none (some v14) none fun v15 =>
qBld z54 [(0, 1, v8), (1, 1, v15)] fun v16 =>
qSt 2 s2 v16 H fun _ H =>
k [s0, s1, s2, s5] H : R))
noncomputable def r70_2 (k : KT R) : KT R := fun fr H => opn 4 fr (fun s0 s1 s2 s5 => 
(qLdA 2 s1 H fun v6 =>
qSt 2 s2 v6 H fun _ H =>
k [s0, s1, s2, s5] H : R))
noncomputable def r70_1 (k : KT R) : KT R := fun fr H => opn 4 fr (fun s0 s1 s2 s5 => 
(qFa 1 s1 fun v3 =>
qLd v3 H fun v4 =>
qEql X 9 v4 (.str []) fun v5 =>
k [s0, s1, s2, v5] H : R))
noncomputable def r70_0 (k : KT R) : KT R := fun fr H => opn 4 fr (fun s0 s1 s2 s5 => 
(qBox s0 H fun v1 H =>
qNew (.cells z54) .ptr H fun v2 H =>
k [s0, v1, v2, s5] H : R))
noncomputable def c70 (C : CallF) (l0 : List AV) (H : AH) (k : AV → AH → R) : R := opn 1 l0 (fun x0 => (qFn (fun kr => (r70_0 (r70_1 (qCd (sel 3) (fun _ => (r70_2 kr)) (fun k1 => k1) (r70_3 kr)))))
(fun fr H => qPtr (sel 2 fr) (qLdA 2 (sel 2 fr) H fun w0 => k w0 H)) [x0, Aes.undef, Aes.undef, Aes.undef] H : R))
/- internal/stringslite.HasSuffix -/
noncomputable def r71_1 (k : KT R) : KT R := fun fr H => opn 3 fr (fun s0 s1 s4 => 
(qLenS s0 fun v6 =>
qLenS s1 fun v8 =>
qGeq X 3 v6 v8 fun v9 =>
qG v9 true (fun k => k s0 H) H fun v11 H =>
qG v9 true (fun k => k s0 H) H fun v12 H =>
qG v9 true (fun k => qLenS v12 fun v => k v H) H fun v13 H =>
qG v9 true (fun k => k s1 H) H fun v14 H =>
qG v9 true (fun k => qLenS v14 fun v => k v H) H fun v15 H =>
qG v9 true (fun k => qSub X 3 v13 v15 fun v => k v H) H fun v16 H =>
qG v9 true (fun k => qSlc Try.t9.desc 0 v11 (some v16) none none fun v => k v H) H fun v17 H =>
qG v9 true (fun k => k s1 H) H fun v18 H =>
qG v9 true (fun k => qEql X 9 v17 v18 fun v => k v H) H fun v19 H =>
qPick v9 v19 (.bool false) fun v20 =>
k [s0, s1, v20] H : R))
noncomputable def r71_0 (k : KT R) : KT R := fun fr H => opn 3 fr (fun s0 s1 s4 => 
(k [s0, s1, (.bool false)] H : R))
noncomputable def c71 (C : CallF) (l0 : List AV) (H : AH) (k : AV → AH → R) : R := opn 2 l0 (fun x0 x1 => (qFn (fun kr => (r71_0 (r71_1 kr)))
(fun fr H => k (sel 2 fr) H) [x0, x1, Aes.undef] H : R))
end
theorem e2 {R : Type} [Mon R] : hFn (R := R) X 2 Try.f2 0 [] = c2 := by kernel_rfl
theorem e3 {R : Type} [Mon R] : hFn (R := R) X 3 Try.f3 3 [0, 1, 2, 6, 7, 8, 9, 17, 25, 30, 55, 62] = c3 := by kernel_rfl
theorem e4 {R : Type} [Mon R] : hFn (R := R) X 4 Try.f4 5 [0, 1, 2, 3, 4, 10, 11, 12, 13, 14, 15, 16, 17, 18, 19, 20, 21, 35, 49, 92, 98, 108, 112, 123] = c4 := by kernel_rfl
theorem e5 {R : Type} [Mon R] : hFn (R := R) X 5 Try.f5 3 [0, 1, 2, 6, 7, 8, 9, 48, 75, 83] = c5 := by kernel_rfl
theorem e6 {R : Type} [Mon R] : hFn (R := R) X 6 Try.f6 3 [0, 1, 2, 6, 7, 8, 9, 10, 11, 12, 13, 14, 22, 31, 43, 64, 103] = c6 := by kernel_rfl
theorem e7 {R : Type} [Mon R] : hFn (R := R) X 7 Try.f7 5 [0, 1, 2, 3, 4, 10, 11, 12, 13, 14, 15, 16, 17, 18, 19, 20, 21, 22, 23, 24, 25, 26, 37, 68, 84, 89, 98, 135, 154, 158, 164, 220] = c7 := by kernel_rfl
theorem e8 {R : Type} [Mon R] : hFn (R := R) X 8 Try.f8 3 [0, 1, 2, 6, 7, 8, 9, 10, 11, 12, 13, 14, 15, 16, 24, 44, 60, 81, 95] = c8 := by kernel_rfl
theorem e9 {R : Type} [Mon R] : hFn (R := R) X 9 Try.f9 3 [0, 1, 2, 6, 7, 8, 9, 10, 11, 12, 13, 14, 15, 16, 17, 18, 19, 20, 31, 61, 71, 77, 87, 102, 108, 130] = c9 := by kernel_rfl
theorem e10 {R : Type} [Mon R] : hFn (R := R) X 10 Try.f10 3 [0, 1, 2, 6, 7, 8, 9, 10, 11, 12, 13, 14, 15, 16, 17, 19, 27, 47, 65, 71, 78, 109, 115, 136, 140, 141, 142, 143, 147] = c10 := by kernel_rfl
theorem e11 {R : Type} [Mon R] : hFn (R := R) X 11 Try.f11 3 [0, 1, 2, 6, 7, 8, 9, 10, 11, 12, 13, 14, 15, 16, 17, 30, 41, 44, 61, 82, 89, 121, 124] = c11 := by kernel_rfl
theorem e12 {R : Type} [Mon R] : hFn (R := R) X 12 Try.f12 3 [0, 1, 2, 6, 7, 8, 9, 10, 11, 12, 13, 14, 15, 16, 17, 25, 33, 37, 49, 62, 70, 77, 139] = c12 := by kernel_rfl
theorem e13 {R : Type} [Mon R] : hFn (R := R) X 13 Try.f13 1 [0, 2, 3, 4, 5, 6, 7, 10] = c13 := by kernel_rfl
theorem e14 {R : Type} [Mon R] : hFn (R := R) X 14 Try.f14 1 [0, 2, 3, 5, 6, 7, 8, 11] = c14 := by kernel_rfl
theorem e15 {R : Type} [Mon R] : hFn (R := R) X 15 Try.f15 2 [0, 1, 4, 5] = c15 := by kernel_rfl
theorem e16 {R : Type} [Mon R] : hFn (R := R) X 16 Try.f16 2 [0, 1, 4, 5] = c16 := by kernel_rfl
theorem e17 {R : Type} [Mon R] : hFn (R := R) X 17 Try.f17 2 [0, 1] = c17 := by kernel_rfl
theorem e18 {R : Type} [Mon R] : hFn (R := R) X 18 Try.f18 2 [0, 1] = c18 := by kernel_rfl
theorem e19 {R : Type} [Mon R] : hFn (R := R) X 19 Try.f19 2 [0, 1, 4, 12] = c19 := by kernel_rfl
theorem e20 {R : Type} [Mon R] : hFn (R := R) X 20 Try.f20 2 [0, 1, 4, 12] = c20 := by kernel_rfl
theorem e21 {R : Type} [Mon R] : hFn (R := R) X 21 Try.f21 1 [0, 2] = c21 := by kernel_rfl
theorem e22 {R : Type} [Mon R] : hFn (R := R) X 22 Try.f22 0 [0, 1] = c22 := by kernel_rfl
theorem e23 {R : Type} [Mon R] : hFn (R := R) X 23 Try.f23 2 [0, 1, 4, 5, 10] = c23 := by kernel_rfl
theorem e24 {R : Type} [Mon R] : hFn (R := R) X 24 Try.f24 0 [0, 1, 2, 3, 4, 5, 9, 12, 29] = c24 := by kernel_rfl
theorem e25 {R : Type} [Mon R] : hFn (R := R) X 25 Try.f25 2 [0, 1, 4, 5, 6, 17, 18, 19] = c25 := by kernel_rfl
theorem e26 {R : Type} [Mon R] : hFn (R := R) X 26 Try.f26 2 [0, 1, 4, 5, 6, 19] = c26 := by kernel_rfl
theorem e27 {R : Type} [Mon R] : hFn (R := R) X 27 Try.f27 2 [0, 1, 4, 5, 6, 7, 8, 9, 10, 17, 18, 19, 43, 62, 69, 101] = c27 := by kernel_rfl
theorem e28 {R : Type} [Mon R] : hFn (R := R) X 28 Try.f28 2 [0, 1, 4, 5, 6, 7, 8, 9, 10, 11, 27, 52, 55, 72, 85, 126] = c28 := by kernel_rfl
theorem e29 {R : Type} [Mon R] : hFn (R := R) X 29 Try.f29 2 [0, 1, 4, 5, 10, 14, 25] = c29 := by kernel_rfl
theorem e30 {R : Type} [Mon R] : hFn (R := R) X 30 Try.f30 1 [0, 2] = c30 := by kernel_rfl
theorem e31 {R : Type} [Mon R] : hFn (R := R) X 31 Try.f31 1 [0, 2] = c31 := by kernel_rfl
theorem e32 {R : Type} [Mon R] : hFn (R := R) X 32 Try.f32 1 [0, 2, 3, 4, 5, 6, 16] = c32 := by kernel_rfl
theorem e33 {R : Type} [Mon R] : hFn (R := R) X 33 Try.f33 0 [0, 1, 2] = c33 := by kernel_rfl
theorem e34 {R : Type} [Mon R] : hFn (R := R) X 34 Try.f34 2 [0, 1, 2, 4, 5, 6, 23, 32] = c34 := by kernel_rfl
theorem e35 {R : Type} [Mon R] : hFn (R := R) X 35 Try.f35 2 [0, 1, 4, 5, 12, 16, 60] = c35 := by kernel_rfl
theorem e36 {R : Type} [Mon R] : hFn (R := R) X 36 Try.f36 2 [0, 1, 4, 5, 6, 14] = c36 := by kernel_rfl
theorem e37 {R : Type} [Mon R] : hFn (R := R) X 37 Try.f37 1 [0, 2, 3, 4, 5, 6, 16] = c37 := by kernel_rfl
theorem e38 {R : Type} [Mon R] : hFn (R := R) X 38 Try.f38 2 [0, 1, 2, 3, 4, 5, 6, 36, 41, 54, 59, 73] = c38 := by kernel_rfl
theorem e39 {R : Type} [Mon R] : hFn (R := R) X 39 Try.f39 2 [0, 1, 4, 5, 10, 14, 41] = c39 := by kernel_rfl
theorem e40 {R : Type} [Mon R] : hFn (R := R) X 40 Try.f40 1 [0, 2, 3, 5, 6, 7, 8, 9, 19] = c40 := by kernel_rfl
theorem e41 {R : Type} [Mon R] : hFn (R := R) X 41 Try.f41 1 [0, 2, 3, 4, 8, 24] = c41 := by kernel_rfl
theorem e42 {R : Type} [Mon R] : hFn (R := R) X 42 Try.f42 3 [0, 1, 2, 6, 7, 8, 9, 10, 11, 12, 16, 33, 57, 58, 65, 73, 77] = c42 := by kernel_rfl
theorem e43 {R : Type} [Mon R] : hFn (R := R) X 43 Try.f43 1 [0, 2, 3, 4, 8] = c43 := by kernel_rfl
theorem e44 {R : Type} [Mon R] : hFn (R := R) X 44 Try.f44 2 [0, 1, 4] = c44 := by kernel_rfl
theorem e45 {R : Type} [Mon R] : hFn (R := R) X 45 Try.f45 2 [0, 1] = c45 := by kernel_rfl
theorem e46 {R : Type} [Mon R] : hFn (R := R) X 46 Try.f46 2 [0, 1, 4] = c46 := by kernel_rfl
theorem e47 {R : Type} [Mon R] : hFn (R := R) X 47 Try.f47 1 [0] = c47 := by kernel_rfl
theorem e48 {R : Type} [Mon R] : hFn (R := R) X 48 Try.f48 1 [0] = c48 := by kernel_rfl
theorem e49 {R : Type} [Mon R] : hFn (R := R) X 49 Try.f49 3 [0, 1, 2, 6, 7, 8, 9, 11, 12, 13, 15, 16, 17, 18] = c49 := by kernel_rfl
theorem e50 {R : Type} [Mon R] : hFn (R := R) X 50 Try.f50 0 [0] = c50 := by kernel_rfl
theorem e51 {R : Type} [Mon R] : hFn (R := R) X 51 Try.f51 2 [0, 1, 2, 4, 5, 6, 26, 31, 40, 45, 56] = c51 := by kernel_rfl
theorem e52 {R : Type} [Mon R] : hFn (R := R) X 52 Try.f52 3 [0, 1, 2, 6, 7, 8, 9, 10, 11, 12, 17] = c52 := by kernel_rfl
theorem e53 {R : Type} [Mon R] : hFn (R := R) X 53 Try.f53 2 [0, 1, 4, 5, 10, 14, 40] = c53 := by kernel_rfl
theorem e54 {R : Type} [Mon R] : hFn (R := R) X 54 Try.f54 1 [0, 2] = c54 := by kernel_rfl
theorem e55 {R : Type} [Mon R] : hFn (R := R) X 55 Try.f55 4 [0, 1, 2, 3, 5, 6, 8, 9, 10, 11, 12, 20, 21, 25, 29, 36, 51, 62] = c55 := by kernel_rfl
theorem e56 {R : Type} [Mon R] : hFn (R := R) X 56 Try.f56 1 [0, 2] = c56 := by kernel_rfl
theorem e57 {R : Type} [Mon R] : hFn (R := R) X 57 Try.f57 4 [0, 1, 2, 3, 5, 6, 8, 9, 10, 11, 12, 13, 20, 21, 27, 31, 40, 51, 62] = c57 := by kernel_rfl
theorem e58 {R : Type} [Mon R] : hFn (R := R) X 58 Try.f58 1 [0, 2, 3, 4, 18, 28] = c58 := by kernel_rfl
theorem e59 {R : Type} [Mon R] : hFn (R := R) X 59 Try.f59 2 [0, 1, 4, 5] = c59 := by kernel_rfl
theorem e60 {R : Type} [Mon R] : hFn (R := R) X 60 Try.f60 3 [0, 1, 2] = c60 := by kernel_rfl
theorem e61 {R : Type} [Mon R] : hFn (R := R) X 61 Try.f61 4 [0, 1, 2, 3, 6, 8, 9, 10, 11, 12, 13, 14, 15, 17, 18, 19, 20] = c61 := by kernel_rfl
theorem e62 {R : Type} [Mon R] : hFn (R := R) X 62 Try.f62 2 [0, 1, 4] = c62 := by kernel_rfl
theorem e63 {R : Type} [Mon R] : hFn (R := R) X 63 Try.f63 1 [0, 1, 2, 5] = c63 := by kernel_rfl
theorem e64 {R : Type} [Mon R] : hFn (R := R) X 64 Try.f64 3 [0, 1, 2] = c64 := by kernel_rfl
theorem e65 {R : Type} [Mon R] : hFn (R := R) X 65 Try.f65 4 [0, 1, 2, 3, 5, 6, 8, 9, 10, 11, 12, 13, 14, 17, 25] = c65 := by kernel_rfl
theorem e66 {R : Type} [Mon R] : hFn (R := R) X 66 Try.f66 1 [0, 1, 2, 5] = c66 := by kernel_rfl
theorem e67 {R : Type} [Mon R] : hFn (R := R) X 67 Try.f67 2 [0, 1, 4, 5, 9] = c67 := by kernel_rfl
theorem e68 {R : Type} [Mon R] : hFn (R := R) X 68 Try.f68 1 [0, 2, 4] = c68 := by kernel_rfl
theorem e69 {R : Type} [Mon R] : hFn (R := R) X 69 Try.f69 2 [0, 1, 4, 7] = c69 := by kernel_rfl
theorem e70 {R : Type} [Mon R] : hFn (R := R) X 70 Try.f70 1 [0, 1, 2, 5] = c70 := by kernel_rfl
theorem e71 {R : Type} [Mon R] : hFn (R := R) X 71 Try.f71 2 [0, 1, 4] = c71 := by kernel_rfl
theorem xf2 : X.fn 2 = some Try.f2 := by kernel_rfl
theorem xf3 : X.fn 3 = some Try.f3 := by kernel_rfl
theorem xf4 : X.fn 4 = some Try.f4 := by kernel_rfl
theorem xf5 : X.fn 5 = some Try.f5 := by kernel_rfl
theorem xf6 : X.fn 6 = some Try.f6 := by kernel_rfl
theorem xf7 : X.fn 7 = some Try.f7 := by kernel_rfl
theorem xf8 : X.fn 8 = some Try.f8 := by kernel_rfl
theorem xf9 : X.fn 9 = some Try.f9 := by kernel_rfl
theorem xf10 : X.fn 10 = some Try.f10 := by kernel_rfl
theorem xf11 : X.fn 11 = some Try.f11 := by kernel_rfl
theorem xf12 : X.fn 12 = some Try.f12 := by kernel_rfl
theorem xf13 : X.fn 13 = some Try.f13 := by kernel_rfl
theorem xf14 : X.fn 14 = some Try.f14 := by kernel_rfl
theorem xf15 : X.fn 15 = some Try.f15 := by kernel_rfl
theorem xf16 : X.fn 16 = some Try.f16 := by kernel_rfl
theorem xf17 : X.fn 17 = some Try.f17 := by kernel_rfl
theorem xf18 : X.fn 18 = some Try.f18 := by kernel_rfl
theorem xf19 : X.fn 19 = some Try.f19 := by kernel_rfl
theorem xf20 : X.fn 20 = some Try.f20 := by kernel_rfl
theorem xf21 : X.fn 21 = some Try.f21 := by kernel_rfl
theorem xf22 : X.fn 22 = some Try.f22 := by kernel_rfl
theorem xf23 : X.fn 23 = some Try.f23 := by kernel_rfl
theorem xf24 : X.fn 24 = some Try.f24 := by kernel_rfl
theorem xf25 : X.fn 25 = some Try.f25 := by kernel_rfl
theorem xf26 : X.fn 26 = some Try.f26 := by kernel_rfl
theorem xf27 : X.fn 27 = some Try.f27 := by kernel_rfl
theorem xf28 : X.fn 28 = some Try.f28 := by kernel_rfl
theorem xf29 : X.fn 29 = some Try.f29 := by kernel_rfl
theorem xf30 : X.fn 30 = some Try.f30 := by kernel_rfl
theorem xf31 : X.fn 31 = some Try.f31 := by kernel_rfl
theorem xf32 : X.fn 32 = some Try.f32 := by kernel_rfl
theorem xf33 : X.fn 33 = some Try.f33 := by kernel_rfl
theorem xf34 : X.fn 34 = some Try.f34 := by kernel_rfl
theorem xf35 : X.fn 35 = some Try.f35 := by kernel_rfl
theorem xf36 : X.fn 36 = some Try.f36 := by kernel_rfl
theorem xf37 : X.fn 37 = some Try.f37 := by kernel_rfl
theorem xf38 : X.fn 38 = some Try.f38 := by kernel_rfl
theorem xf39 : X.fn 39 = some Try.f39 := by kernel_rfl
theorem xf40 : X.fn 40 = some Try.f40 := by kernel_rfl
theorem xf41 : X.fn 41 = some Try.f41 := by kernel_rfl
theorem xf42 : X.fn 42 = some Try.f42 := by kernel_rfl
theorem xf43 : X.fn 43 = some Try.f43 := by kernel_rfl
theorem xf44 : X.fn 44 = some Try.f44 := by kernel_rfl
theorem xf45 : X.fn 45 = some Try.f45 := by kernel_rfl
theorem xf46 : X.fn 46 = some Try.f46 := by kernel_rfl
theorem xf47 : X.fn 47 = some Try.f47 := by kernel_rfl
theorem xf48 : X.fn 48 = some Try.f48 := by kernel_rfl
theorem xf49 : X.fn 49 = some Try.f49 := by kernel_rfl
theorem xf50 : X.fn 50 = some Try.f50 := by kernel_rfl
theorem xf51 : X.fn 51 = some Try.f51 := by kernel_rfl
theorem xf52 : X.fn 52 = some Try.f52 := by kernel_rfl
theorem xf53 : X.fn 53 = some Try.f53 := by kernel_rfl
theorem xf54 : X.fn 54 = some Try.f54 := by kernel_rfl
theorem xf55 : X.fn 55 = some Try.f55 := by kernel_rfl
theorem xf56 : X.fn 56 = some Try.f56 := by kernel_rfl
theorem xf57 : X.fn 57 = some Try.f57 := by kernel_rfl
theorem xf58 : X.fn 58 = some Try.f58 := by kernel_rfl
theorem xf59 : X.fn 59 = some Try.f59 := by kernel_rfl
theorem xf60 : X.fn 60 = some Try.f60 := by kernel_rfl
theorem xf61 : X.fn 61 = some Try.f61 := by kernel_rfl
theorem xf62 : X.fn 62 = some Try.f62 := by kernel_rfl
theorem xf63 : X.fn 63 = some Try.f63 := by kernel_rfl
theorem xf64 : X.fn 64 = some Try.f64 := by kernel_rfl
theorem xf65 : X.fn 65 = some Try.f65 := by kernel_rfl
theorem xf66 : X.fn 66 = some Try.f66 := by kernel_rfl
theorem xf67 : X.fn 67 = some Try.f67 := by kernel_rfl
theorem xf68 : X.fn 68 = some Try.f68 := by kernel_rfl
theorem xf69 : X.fn 69 = some Try.f69 := by kernel_rfl
theorem xf70 : X.fn 70 = some Try.f70 := by kernel_rfl
theorem xf71 : X.fn 71 = some Try.f71 := by kernel_rfl
end T
