import Derived.Test.YtphgikpdbaeeoaaDoorTabRd
import Derived.Test.YtphgikpdbaeeoaaDoorS8
set_option linter.all false
set_option maxRecDepth 100000
set_option linter.unusedVariables false
open Go Go.Aes Go.Proofs
namespace T
noncomputable def z5 : List AV := [.int .u8 0]
noncomputable def z9 : List AV := [.str []]
noncomputable def z25 : List AV := [.int .i64 0, .str [], .sl [] .nil, .sl [] .nil]
noncomputable def z53 : List AV := [.str [], .str [], .str [], .str [], .str [], .str [], .str [], .str []]
noncomputable def z55 : List AV := [.str [], .str [], .str []]
noncomputable def z63 : List AV := [.nilp, .sl [] .nil]
noncomputable def z66 : List AV := [.str [], .str []]
noncomputable def z67 : List AV := [.str [], .str [], .str [], .str [], .str []]
noncomputable def z68 : List AV := [.str [], .str [], .str [], .str []]
noncomputable def z97 : List AV := [.int .u8 0, .int .u8 0]
noncomputable def z98 : List AV := [.int .u8 0, .int .u8 0, .int .u8 0, .int .u8 0, .int .u8 0, .int .u8 0, .int .u8 0, .int .u8 0, .int .u8 0, .int .u8 0, .int .u8 0, .int .u8 0, .int .u8 0, .int .u8 0, .int .u8 0, .int .u8 0, .int .u8 0, .int .u8 0, .int .u8 0, .int .u8 0, .int .u8 0, .int .u8 0, .int .u8 0, .int .u8 0, .int .u8 0, .int .u8 0, .int .u8 0, .int .u8 0, .int .u8 0, .int .u8 0, .int .u8 0, .int .u8 0]
noncomputable def z106 : List AV := [.bool false, .bool false, .bool false, .bool false, .bool false, .bool false, .bool false, .bool false, .bool false, .bool false, .bool false, .bool false, .bool false, .bool false, .bool false, .bool false, .bool false, .bool false, .bool false, .bool false, .bool false, .bool false, .bool false, .bool false, .bool false, .bool false, .bool false, .bool false, .bool false, .bool false, .bool false, .bool false, .bool false, .bool false, .bool false, .bool false, .bool false, .bool false, .bool false, .bool false, .bool false, .bool false, .bool false, .bool false, .bool false, .bool false, .bool false, .bool false, .bool false, .bool false, .bool false, .bool false, .bool false, .bool false, .bool false, .bool false, .bool false, .bool false, .bool false, .bool false, .bool false, .bool false, .bool false, .bool false, .bool false, .bool false, .bool false, .bool false, .bool false, .bool false, .bool false, .bool false, .bool false, .bool false, .bool false, .bool false, .bool false, .bool false, .bool false, .bool false, .bool false, .bool false, .bool false, .bool false, .bool false, .bool false, .bool false, .bool false, .bool false, .bool false, .bool false, .bool false, .bool false, .bool false, .bool false, .bool false, .bool false, .bool false, .bool false, .bool false, .bool false, .bool false, .bool false, .bool false, .bool false, .bool false, .bool false, .bool false, .bool false, .bool false, .bool false, .bool false, .bool false, .bool false, .bool false, .bool false, .bool false, .bool false, .bool false, .bool false, .bool false, .bool false, .bool false, .bool false, .bool false, .bool false, .bool false, .bool false, .bool false, .bool false, .bool false, .bool false, .bool false, .bool false, .bool false, .bool false, .bool false, .bool false, .bool false, .bool false, .bool false, .bool false, .bool false, .bool false, .bool false, .bool false, .bool false, .bool false, .bool false, .bool false, .bool false, .bool false, .bool false, .bool false, .bool false, .bool false, .bool false, .bool false, .bool false, .bool false, .bool false, .bool false, .bool false, .bool false, .bool false, .bool false, .bool false, .bool false, .bool false, .bool false, .bool false, .bool false, .bool false, .bool false, .bool false, .bool false, .bool false, .bool false, .bool false, .bool false, .bool false, .bool false, .bool false, .bool false, .bool false, .bool false, .bool false, .bool false, .bool false, .bool false, .bool false, .bool false, .bool false, .bool false, .bool false, .bool false, .bool false, .bool false, .bool false, .bool false, .bool false, .bool false, .bool false, .bool false, .bool false, .bool false, .bool false, .bool false, .bool false, .bool false, .bool false, .bool false, .bool false, .bool false, .bool false, .bool false, .bool false, .bool false, .bool false, .bool false, .bool false, .bool false, .bool false, .bool false, .bool false, .bool false, .bool false, .bool false, .bool false, .bool false, .bool false, .bool false, .bool false, .bool false, .bool false, .bool false, .bool false, .bool false, .bool false, .bool false, .bool false, .bool false, .bool false, .bool false, .bool false, .bool false, .bool false, .bool false, .bool false, .bool false, .bool false, .bool false, .bool false, .bool false, .bool false, .bool false]
section
variable {R : Type} [Mon R]
/- gosem.cut.init -/
noncomputable def r2_0 (C : CallF) (k : KT R) : KT R := fun fr H => opn 0 fr (
(qRes (C 1 [] H) fun v0 H =>
k [] H : R))
noncomputable def c2 (C : CallF) (l0 : List AV) (H : AH) (k : AV → AH → R) : R := opn 0 l0 ((qFn (fun kr => (r2_0 C kr))
(fun fr H => k (.tup []) H) [] H : R))
/- refectory/refectorylaw02.JvalAll -/
noncomputable def r3_7 (C : CallF) (k : KT R) : KT R := fun fr H => opn 15 fr (fun s0 s1 s2 s3 s4 s6 s7 s8 s9 s10 s11 s12 s13 s14 s27 => 
(qEql X 4 s7 s9 fun v53 =>
qG v53 true (fun k => k s8 H) H fun v55 H =>
qG v53 true (fun k => k s10 H) H fun v56 H =>
qG v53 true (fun k => qEql X 4 v55 v56 fun v => k v H) H fun v57 H =>
qPick v53 v57 (.bool false) fun v58 =>
qG v58 true (fun k => qLdA 4 s3 H fun v => k v H) H fun v60 H =>
qG v58 true (fun k => qLdA 4 s3 H fun v => k v H) H fun v62 H =>
qG v58 true (fun k => qRes (C 19 [v60] H) fun v H => qLdA 4 s3 H fun w => qSame v62 w (k v H)) H fun v61 H =>
qG v58 true (fun k => qRes (C 20 [v62] H) k) H fun v63 H =>
qG v58 true (fun k => qEql X 4 v61 v63 fun v => k v H) H fun v64 H =>
qPick v58 v64 (.bool false) fun v65 =>
qG v65 true (fun k => qLdA 4 s3 H fun v => k v H) H fun v67 H =>
qG v65 true (fun k => qLdA 4 s3 H fun v => k v H) H fun v69 H =>
qG v65 true (fun k => qRes (C 21 [v67] H) fun v H => qLdA 4 s3 H fun w => qSame v69 w (k v H)) H fun v68 H =>
qG v65 true (fun k => qRes (C 22 [v69] H) k) H fun v70 H =>
qG v65 true (fun k => qEql X 9 v68 v70 fun v => k v H) H fun v71 H =>
qPick v65 v71 (.bool false) fun v72 =>
qG v72 true (fun k => qLdA 4 s3 H fun v => k v H) H fun v74 H =>
qG v72 true (fun k => qLdA 4 s4 H fun v => k v H) H fun v75 H =>
qG v72 true (fun k => qLdA 4 s3 H fun v => k v H) H fun v77 H =>
qG v72 true (fun k => qLdA 4 s4 H fun v => k v H) H fun v78 H =>
qG v72 true (fun k => qRes (C 23 [v74, v75] H) fun v H => qLdA 4 s4 H fun w => qSame v78 w (qLdA 4 s3 H fun w => qSame v77 w (k v H))) H fun v76 H =>
qG v72 true (fun k => qRes (C 24 [v77, v78] H) k) H fun v79 H =>
qG v72 true (fun k => qEql X 4 v76 v79 fun v => k v H) H fun v80 H =>
qPick v72 v80 (.bool false) fun v81 =>
qG v81 true (fun k => qLdA 4 s11 H fun v => k v H) H fun v83 H =>
qG v81 true (fun k => qLdA 4 s13 H fun v => k v H) H fun v84 H =>
qG v81 true (fun k => qRes (C 24 [v83, v84] H) k) H fun v85 H =>
qPick v81 v85 (.bool false) fun v86 =>
qG v86 true (fun k => k s12 H) H fun v88 H =>
qG v86 true (fun k => k s14 H) H fun v89 H =>
qG v86 true (fun k => qEql X 4 v88 v89 fun v => k v H) H fun v90 H =>
qPick v86 v90 (.bool false) fun v91 =>
qG v91 true (fun k => qRes (C 14 [] H) k) H fun v93 H =>
qPick v91 v93 (.bool false) fun v94 =>
k [s0, s1, s2, s3, s4, v94, s7, s8, s9, s10, s11, s12, s13, s14, s27] H : R))
noncomputable def r3_6 (C : CallF) (k : KT R) : KT R := fun fr H => opn 15 fr (fun s0 s1 s2 s3 s4 s6 s7 s8 s9 s10 s11 s12 s13 s14 s27 => 
(qLdA 4 s3 H fun v46 =>
qRes (C 18 [v46, s2] H) fun v48 H =>
qExt v48 0 fun v49 =>
qExt v48 1 fun v50 =>
qNew (.cells z25) .ptr H fun v13 H =>
qSt 4 v13 v49 H fun _ H =>
k [s0, s1, s2, s3, s4, s6, s7, s8, s9, s10, s11, s12, v13, v50, s27] H : R))
noncomputable def r3_5 (C : CallF) (k : KT R) : KT R := fun fr H => opn 15 fr (fun s0 s1 s2 s3 s4 s6 s7 s8 s9 s10 s11 s12 s13 s14 s27 => 
(qLdA 4 s3 H fun v40 =>
qRes (C 17 [v40, s2] H) fun v42 H =>
qExt v42 0 fun v43 =>
qExt v42 1 fun v44 =>
qNew (.cells z25) .ptr H fun v11 H =>
qSt 4 v11 v43 H fun _ H =>
k [s0, s1, s2, s3, s4, s6, s7, s8, s9, s10, v11, v44, s13, s14, s27] H : R))
noncomputable def r3_4 (C : CallF) (k : KT R) : KT R := fun fr H => opn 15 fr (fun s0 s1 s2 s3 s4 s6 s7 s8 s9 s10 s11 s12 s13 s14 s27 => 
(qRes (C 16 [s2] H) fun v36 H =>
qExt v36 0 fun v37 =>
qExt v36 1 fun v38 =>
k [s0, s1, s2, s3, s4, s6, s7, s8, v37, v38, s11, s12, s13, s14, s27] H : R))
noncomputable def r3_3 (C : CallF) (k : KT R) : KT R := fun fr H => opn 15 fr (fun s0 s1 s2 s3 s4 s6 s7 s8 s9 s10 s11 s12 s13 s14 s27 => 
(qRes (C 15 [s2] H) fun v31 H =>
qExt v31 0 fun v32 =>
qExt v31 1 fun v33 =>
k [s0, s1, s2, s3, s4, s6, v32, v33, s9, s10, s11, s12, s13, s14, s27] H : R))
noncomputable def r3_2 (C : CallF) (k : KT R) : KT R := fun fr H => opn 15 fr (fun s0 s1 s2 s3 s4 s6 s7 s8 s9 s10 s11 s12 s13 s14 s27 => 
(qRes (C 14 [] H) fun v28 H =>
k [s0, s1, s2, s3, s4, v28, s7, s8, s9, s10, s11, s12, s13, s14, s27] H : R))
noncomputable def r3_1 (C : CallF) (k : KT R) : KT R := fun fr H => opn 15 fr (fun s0 s1 s2 s3 s4 s6 s7 s8 s9 s10 s11 s12 s13 s14 s27 => 
(qLdA 4 s3 H fun v15 =>
qRes (C 13 [v15, (.int .i64 14)] H) fun v16 H =>
qNot v16 fun v17 =>
qG v17 false (fun k => qLdA 4 s4 H fun v => k v H) H fun v19 H =>
qG v17 false (fun k => qRes (C 13 [v19, (.int .i64 14)] H) k) H fun v20 H =>
qG v17 false (fun k => qNot v20 fun v => k v H) H fun v21 H =>
qPick v17 (.bool true) v21 fun v22 =>
qG v22 false (fun k => k s2 H) H fun v24 H =>
qG v22 false (fun k => qLenS v24 fun v => k v H) H fun v25 H =>
qG v22 false (fun k => qGtr X 3 v25 (.int .i64 200) fun v => k v H) H fun v26 H =>
qPick v22 (.bool true) v26 fun v27 =>
k [s0, s1, s2, s3, s4, s6, s7, s8, s9, s10, s11, s12, s13, s14, v27] H : R))
noncomputable def r3_0 (k : KT R) : KT R := fun fr H => opn 15 fr (fun s0 s1 s2 s3 s4 s6 s7 s8 s9 s10 s11 s12 s13 s14 s27 => 
(qBox s0 H fun v3 H =>
qBox s1 H fun v4 H =>
k [s0, s1, s2, v3, v4, (.bool false), s7, s8, s9, s10, s11, s12, s13, s14, s27] H : R))
noncomputable def c3 (C : CallF) (l0 : List AV) (H : AH) (k : AV → AH → R) : R := opn 3 l0 (fun x0 x1 x2 => (qFn (fun kr => (r3_0 (r3_1 C (qCd (sel 14) (fun _ => (r3_2 C kr)) (fun k1 => k1) (r3_3 C (r3_4 C (r3_5 C (r3_6 C (r3_7 C kr)))))))))
(fun fr H => k (sel 5 fr) H) [x0, x1, x2, Aes.undef, Aes.undef, Aes.undef, Aes.undef, Aes.undef, Aes.undef, Aes.undef, Aes.undef, Aes.undef, Aes.undef, Aes.undef, Aes.undef] H : R))
/- refectory/refectorylaw02.JvalNumbers -/
noncomputable def r4_6 (C : CallF) (k : KT R) : KT R := fun fr H => opn 8 fr (fun s0 s1 s4 s5 s7 s9 s10 s18 => 
(qLdA 4 s5 H fun v34 =>
qRes (C 19 [v34] H) fun v35 H =>
qG v35 true (fun k => qLdA 4 s7 H fun v => k v H) H fun v37 H =>
qG v35 true (fun k => qRes (C 19 [v37] H) k) H fun v38 H =>
qPick v35 v38 (.bool false) fun v39 =>
qG v39 true (fun k => k s9 H) H fun v41 H =>
qG v39 true (fun k => qNeq X 9 v41 (.str []) fun v => k v H) H fun v42 H =>
qPick v39 v42 (.bool false) fun v43 =>
qG v43 true (fun k => k s10 H) H fun v45 H =>
qG v43 true (fun k => qNeq X 9 v45 (.str []) fun v => k v H) H fun v46 H =>
qPick v43 v46 (.bool false) fun v47 =>
qG v47 true (fun k => k s9 H) H fun v49 H =>
qG v47 true (fun k => k s10 H) H fun v50 H =>
qG v47 true (fun k => qEql X 9 v49 v50 fun v => k v H) H fun v51 H =>
qG v47 true (fun k => qLdA 4 s5 H fun v => k v H) H fun v52 H =>
qG v47 true (fun k => qLdA 4 s7 H fun v => k v H) H fun v53 H =>
qG v47 true (fun k => qRes (C 23 [v52, v53] H) k) H fun v54 H =>
qG v47 true (fun k => qEql X 4 v51 v54 fun v => k v H) H fun v55 H =>
qPick v47 v55 (.bool false) fun v56 =>
qG v56 true (fun k => qLdA 4 s5 H fun v => k v H) H fun v58 H =>
qG v56 true (fun k => qLdA 4 s5 H fun v => k v H) H fun v59 H =>
qG v56 true (fun k => qRes (C 23 [v58, v59] H) k) H fun v60 H =>
qPick v56 v60 (.bool false) fun v61 =>
qG v61 true (fun k => qRes (C 14 [] H) k) H fun v63 H =>
qPick v61 v63 (.bool false) fun v64 =>
k [s0, s1, v64, s5, s7, s9, s10, s18] H : R))
noncomputable def r4_5 (C : CallF) (k : KT R) : KT R := fun fr H => opn 8 fr (fun s0 s1 s4 s5 s7 s9 s10 s18 => 
(qLdA 4 s5 H fun v30 =>
qLdA 4 s7 H fun v32 =>
qRes (C 21 [v30] H) fun v31 H =>
qLdA 4 s7 H fun w => qSame v32 w (qRes (C 21 [v32] H) fun v33 H =>
k [s0, s1, s4, s5, s7, v31, v33, s18] H) : R))
noncomputable def r4_4 (C : CallF) (k : KT R) : KT R := fun fr H => opn 8 fr (fun s0 s1 s4 s5 s7 s9 s10 s18 => 
(qRes (C 25 [s1, (.int .i64 0), (.int .i64 6)] H) fun v27 H =>
qExt v27 0 fun v28 =>
qExt v27 1 fun v29 =>
qNew (.cells z25) .ptr H fun v7 H =>
qSt 4 v7 v28 H fun _ H =>
k [s0, s1, s4, s5, v7, s9, s10, s18] H : R))
noncomputable def r4_3 (C : CallF) (k : KT R) : KT R := fun fr H => opn 8 fr (fun s0 s1 s4 s5 s7 s9 s10 s18 => 
(qRes (C 25 [s0, (.int .i64 0), (.int .i64 6)] H) fun v22 H =>
qExt v22 0 fun v23 =>
qExt v22 1 fun v24 =>
qNew (.cells z25) .ptr H fun v5 H =>
qSt 4 v5 v23 H fun _ H =>
k [s0, s1, s4, v5, s7, s9, s10, s18] H : R))
noncomputable def r4_2 (C : CallF) (k : KT R) : KT R := fun fr H => opn 8 fr (fun s0 s1 s4 s5 s7 s9 s10 s18 => 
(qRes (C 14 [] H) fun v19 H =>
k [s0, s1, v19, s5, s7, s9, s10, s18] H : R))
noncomputable def r4_1 (k : KT R) : KT R := fun fr H => opn 8 fr (fun s0 s1 s4 s5 s7 s9 s10 s18 => 
(qLenL s0 fun v12 =>
qGtr X 3 v12 (.int .i64 40) fun v13 =>
qG v13 false (fun k => k s1 H) H fun v15 H =>
qG v13 false (fun k => qLenL v15 fun v => k v H) H fun v16 H =>
qG v13 false (fun k => qGtr X 3 v16 (.int .i64 40) fun v => k v H) H fun v17 H =>
qPick v13 (.bool true) v17 fun v18 =>
k [s0, s1, s4, s5, s7, s9, s10, v18] H : R))
noncomputable def r4_0 (k : KT R) : KT R := fun fr H => opn 8 fr (fun s0 s1 s4 s5 s7 s9 s10 s18 => 
(k [s0, s1, (.bool false), s5, s7, s9, s10, s18] H : R))
noncomputable def c4 (C : CallF) (l0 : List AV) (H : AH) (k : AV → AH → R) : R := opn 2 l0 (fun x0 x1 => (qFn (fun kr => (r4_0 (r4_1 (qCd (sel 7) (fun _ => (r4_2 C kr)) (fun k1 => k1) (r4_3 C (r4_4 C (r4_5 C (r4_6 C kr))))))))
(fun fr H => k (sel 2 fr) H) [x0, x1, Aes.undef, Aes.undef, Aes.undef, Aes.undef, Aes.undef, Aes.undef] H : R))
/- refectory/refectorylaw02.JvalWrong -/
noncomputable def r5_27 (C : CallF) (k : KT R) : KT R := fun fr H => opn 17 fr (fun s0 s1 s4 s5 s7 s10 s19 s27 s29 s31 s36 s42 s45 s51 s57 s63 s69 => 
(qLdA 4 s7 H fun v74 =>
qRes (C 19 [v74] H) fun v75 H =>
qNot v75 fun v76 =>
qG v76 true (fun k => qLdA 4 s7 H fun v => k v H) H fun v78 H =>
qG v76 true (fun k => qRes (C 21 [v78] H) k) H fun v79 H =>
qG v76 true (fun k => qEql X 9 v79 (.str []) fun v => k v H) H fun v80 H =>
qPick v76 v80 (.bool false) fun v81 =>
qG v81 true (fun k => qRes (C 14 [] H) k) H fun v83 H =>
qPick v81 v83 (.bool false) fun v84 =>
k [s0, s1, v84, s5, s7, s10, s19, s27, s29, s31, s36, s42, s45, s51, s57, s63, s69] H : R))
noncomputable def r5_12 (k : KT R) : KT R := fun fr H => opn 17 fr (fun s0 s1 s4 s5 s7 s10 s19 s27 s29 s31 s36 s42 s45 s51 s57 s63 s69 => 
(qFa 2 s7 fun v33 =>
qLd v33 H fun v34 =>
qIa 1 v34 (.int .i64 1) fun v35 =>
qSt 1 v35 (.str [97]) H fun _ H =>
k [s0, s1, s4, s5, s7, s10, s19, s27, s29, s31, s36, s42, s45, s51, s57, s63, s69] H : R))
noncomputable def r5_14 (k : KT R) : KT R := fun fr H => opn 17 fr (fun s0 s1 s4 s5 s7 s10 s19 s27 s29 s31 s36 s42 s45 s51 s57 s63 s69 => 
(qFa 2 s7 fun v38 =>
qLd v38 H fun v39 =>
qSlc Tryd.t22.desc 1 v39 none (some (.int .i64 1)) none fun v40 =>
qFa 2 s7 fun v41 =>
qSt 1 v41 v40 H fun _ H =>
k [s0, s1, s4, s5, s7, s10, s19, s27, s29, s31, s36, s42, s45, s51, s57, s63, s69] H : R))
noncomputable def r5_16 (k : KT R) : KT R := fun fr H => opn 17 fr (fun s0 s1 s4 s5 s7 s10 s19 s27 s29 s31 s36 s42 s45 s51 s57 s63 s69 => 
(qFa 1 s7 fun v44 =>
qSt 1 v44 (.str [120]) H fun _ H =>
k [s0, s1, s4, s5, s7, s10, s19, s27, s29, s31, s36, s42, s45, s51, s57, s63, s69] H : R))
noncomputable def r5_18 (k : KT R) : KT R := fun fr H => opn 17 fr (fun s0 s1 s4 s5 s7 s10 s19 s27 s29 s31 s36 s42 s45 s51 s57 s63 s69 => 
(qFa 3 s7 fun v47 =>
qLd v47 H fun v48 =>
qIa 4 v48 (.int .i64 1) fun v49 =>
qFa 0 v49 fun v50 =>
qSt 1 v50 (.int .i64 6) H fun _ H =>
k [s0, s1, s4, s5, s7, s10, s19, s27, s29, s31, s36, s42, s45, s51, s57, s63, s69] H : R))
noncomputable def r5_20 (k : KT R) : KT R := fun fr H => opn 17 fr (fun s0 s1 s4 s5 s7 s10 s19 s27 s29 s31 s36 s42 s45 s51 s57 s63 s69 => 
(qFa 3 s7 fun v53 =>
qLd v53 H fun v54 =>
qBld z25 [(0, 1, (.int .i64 3)), (1, 1, (.str [49,46,53]))] fun v55 =>
qIa 4 v54 (.int .i64 1) fun v56 =>
qSt 4 v56 v55 H fun _ H =>
k [s0, s1, s4, s5, s7, s10, s19, s27, s29, s31, s36, s42, s45, s51, s57, s63, s69] H : R))
noncomputable def r5_22 (k : KT R) : KT R := fun fr H => opn 17 fr (fun s0 s1 s4 s5 s7 s10 s19 s27 s29 s31 s36 s42 s45 s51 s57 s63 s69 => 
(qFa 3 s7 fun v59 =>
qLd v59 H fun v60 =>
qBld z25 [(0, 1, (.int .i64 2)), (1, 1, (.str [121,101,115]))] fun v61 =>
qIa 4 v60 (.int .i64 1) fun v62 =>
qSt 4 v62 v61 H fun _ H =>
k [s0, s1, s4, s5, s7, s10, s19, s27, s29, s31, s36, s42, s45, s51, s57, s63, s69] H : R))
noncomputable def r5_24 (k : KT R) : KT R := fun fr H => opn 17 fr (fun s0 s1 s4 s5 s7 s10 s19 s27 s29 s31 s36 s42 s45 s51 s57 s63 s69 => 
(qFa 3 s7 fun v65 =>
qLd v65 H fun v66 =>
qBld z25 [(0, 1, (.int .i64 5)), (1, 1, (.str [255]))] fun v67 =>
qIa 4 v66 (.int .i64 1) fun v68 =>
qSt 4 v68 v67 H fun _ H =>
k [s0, s1, s4, s5, s7, s10, s19, s27, s29, s31, s36, s42, s45, s51, s57, s63, s69] H : R))
noncomputable def r5_26 (k : KT R) : KT R := fun fr H => opn 17 fr (fun s0 s1 s4 s5 s7 s10 s19 s27 s29 s31 s36 s42 s45 s51 s57 s63 s69 => 
(qFa 2 s7 fun v71 =>
qLd v71 H fun v72 =>
qIa 1 v72 (.int .i64 0) fun v73 =>
qSt 1 v73 (.str [255]) H fun _ H =>
k [s0, s1, s4, s5, s7, s10, s19, s27, s29, s31, s36, s42, s45, s51, s57, s63, s69] H : R))
noncomputable def r5_10 (k : KT R) : KT R := fun fr H => opn 17 fr (fun s0 s1 s4 s5 s7 s10 s19 s27 s29 s31 s36 s42 s45 s51 s57 s63 s69 => 
(qFa 0 s7 fun v30 =>
qSt 1 v30 (.int .i64 7) H fun _ H =>
k [s0, s1, s4, s5, s7, s10, s19, s27, s29, s31, s36, s42, s45, s51, s57, s63, s69] H : R))
noncomputable def r5_25 (k : KT R) : KT R := fun fr H => opn 17 fr (fun s0 s1 s4 s5 s7 s10 s19 s27 s29 s31 s36 s42 s45 s51 s57 s63 s69 => 
(qEql X 3 s29 (.int .i64 7) fun v70 =>
k [s0, s1, s4, s5, s7, s10, s19, s27, s29, s31, s36, s42, s45, s51, s57, s63, v70] H : R))
noncomputable def r5_23 (k : KT R) : KT R := fun fr H => opn 17 fr (fun s0 s1 s4 s5 s7 s10 s19 s27 s29 s31 s36 s42 s45 s51 s57 s63 s69 => 
(qEql X 3 s29 (.int .i64 6) fun v64 =>
k [s0, s1, s4, s5, s7, s10, s19, s27, s29, s31, s36, s42, s45, s51, s57, v64, s69] H : R))
noncomputable def r5_21 (k : KT R) : KT R := fun fr H => opn 17 fr (fun s0 s1 s4 s5 s7 s10 s19 s27 s29 s31 s36 s42 s45 s51 s57 s63 s69 => 
(qEql X 3 s29 (.int .i64 5) fun v58 =>
k [s0, s1, s4, s5, s7, s10, s19, s27, s29, s31, s36, s42, s45, s51, v58, s63, s69] H : R))
noncomputable def r5_19 (k : KT R) : KT R := fun fr H => opn 17 fr (fun s0 s1 s4 s5 s7 s10 s19 s27 s29 s31 s36 s42 s45 s51 s57 s63 s69 => 
(qEql X 3 s29 (.int .i64 4) fun v52 =>
k [s0, s1, s4, s5, s7, s10, s19, s27, s29, s31, s36, s42, s45, v52, s57, s63, s69] H : R))
noncomputable def r5_17 (k : KT R) : KT R := fun fr H => opn 17 fr (fun s0 s1 s4 s5 s7 s10 s19 s27 s29 s31 s36 s42 s45 s51 s57 s63 s69 => 
(qEql X 3 s29 (.int .i64 3) fun v46 =>
k [s0, s1, s4, s5, s7, s10, s19, s27, s29, s31, s36, s42, v46, s51, s57, s63, s69] H : R))
noncomputable def r5_15 (k : KT R) : KT R := fun fr H => opn 17 fr (fun s0 s1 s4 s5 s7 s10 s19 s27 s29 s31 s36 s42 s45 s51 s57 s63 s69 => 
(qEql X 3 s29 (.int .i64 2) fun v43 =>
k [s0, s1, s4, s5, s7, s10, s19, s27, s29, s31, s36, v43, s45, s51, s57, s63, s69] H : R))
noncomputable def r5_13 (k : KT R) : KT R := fun fr H => opn 17 fr (fun s0 s1 s4 s5 s7 s10 s19 s27 s29 s31 s36 s42 s45 s51 s57 s63 s69 => 
(qEql X 3 s29 (.int .i64 1) fun v37 =>
k [s0, s1, s4, s5, s7, s10, s19, s27, s29, s31, v37, s42, s45, s51, s57, s63, s69] H : R))
noncomputable def r5_11 (k : KT R) : KT R := fun fr H => opn 17 fr (fun s0 s1 s4 s5 s7 s10 s19 s27 s29 s31 s36 s42 s45 s51 s57 s63 s69 => 
(qEql X 3 s29 (.int .i64 0) fun v32 =>
k [s0, s1, s4, s5, s7, s10, s19, s27, s29, v32, s36, s42, s45, s51, s57, s63, s69] H : R))
noncomputable def r5_9 (C : CallF) (k : KT R) : KT R := fun fr H => opn 17 fr (fun s0 s1 s4 s5 s7 s10 s19 s27 s29 s31 s36 s42 s45 s51 s57 s63 s69 => 
(qRes (C 26 [s1, (.int .i64 9)] H) fun v29 H =>
k [s0, s1, s4, s5, s7, s10, s19, s27, v29, s31, s36, s42, s45, s51, s57, s63, s69] H : R))
noncomputable def r5_8 (k : KT R) : KT R := fun fr H => opn 17 fr (fun s0 s1 s4 s5 s7 s10 s19 s27 s29 s31 s36 s42 s45 s51 s57 s63 s69 => 
(k [s0, s1, (.bool false), s5, s7, s10, s19, s27, s29, s31, s36, s42, s45, s51, s57, s63, s69] H : R))
noncomputable def r5_7 (C : CallF) (k : KT R) : KT R := fun fr H => opn 17 fr (fun s0 s1 s4 s5 s7 s10 s19 s27 s29 s31 s36 s42 s45 s51 s57 s63 s69 => 
(qLdA 4 s7 H fun v25 =>
qRes (C 19 [v25] H) fun v26 H =>
qNot v26 fun v27 =>
k [s0, s1, s4, s5, s7, s10, s19, v27, s29, s31, s36, s42, s45, s51, s57, s63, s69] H : R))
noncomputable def r5_6 (k : KT R) : KT R := fun fr H => opn 17 fr (fun s0 s1 s4 s5 s7 s10 s19 s27 s29 s31 s36 s42 s45 s51 s57 s63 s69 => 
(qRowsH 1 z9 2 [(0, (.str [97])), (1, (.str [98]))] H fun v20 H =>
qLdA 4 s5 H fun v21 =>
qBld z25 [(0, 1, (.int .i64 1))] fun v22 =>
qRowsH 4 z25 2 [(0, v21), (1, v22)] H fun v23 H =>
qBld z25 [(0, 1, (.int .i64 8)), (2, 1, v20), (3, 1, v23)] fun v24 =>
qNew (.cells z25) .ptr H fun v7 H =>
qSt 4 v7 v24 H fun _ H =>
k [s0, s1, s4, s5, v7, s10, s19, s27, s29, s31, s36, s42, s45, s51, s57, s63, s69] H : R))
noncomputable def r5_5 (k : KT R) : KT R := fun fr H => opn 17 fr (fun s0 s1 s4 s5 s7 s10 s19 s27 s29 s31 s36 s42 s45 s51 s57 s63 s69 => 
(k [s0, s1, (.bool false), s5, s7, s10, s19, s27, s29, s31, s36, s42, s45, s51, s57, s63, s69] H : R))
noncomputable def r5_4 (C : CallF) (k : KT R) : KT R := fun fr H => opn 17 fr (fun s0 s1 s4 s5 s7 s10 s19 s27 s29 s31 s36 s42 s45 s51 s57 s63 s69 => 
(qLdA 4 s5 H fun v17 =>
qRes (C 19 [v17] H) fun v18 H =>
qNot v18 fun v19 =>
k [s0, s1, s4, s5, s7, s10, v19, s27, s29, s31, s36, s42, s45, s51, s57, s63, s69] H : R))
noncomputable def r5_3 (C : CallF) (k : KT R) : KT R := fun fr H => opn 17 fr (fun s0 s1 s4 s5 s7 s10 s19 s27 s29 s31 s36 s42 s45 s51 s57 s63 s69 => 
(qRes (C 25 [s0, (.int .i64 0), (.int .i64 5)] H) fun v14 H =>
qExt v14 0 fun v15 =>
qExt v14 1 fun v16 =>
qNew (.cells z25) .ptr H fun v5 H =>
qSt 4 v5 v15 H fun _ H =>
k [s0, s1, s4, v5, s7, s10, s19, s27, s29, s31, s36, s42, s45, s51, s57, s63, s69] H : R))
noncomputable def r5_2 (C : CallF) (k : KT R) : KT R := fun fr H => opn 17 fr (fun s0 s1 s4 s5 s7 s10 s19 s27 s29 s31 s36 s42 s45 s51 s57 s63 s69 => 
(qRes (C 14 [] H) fun v11 H =>
k [s0, s1, v11, s5, s7, s10, s19, s27, s29, s31, s36, s42, s45, s51, s57, s63, s69] H : R))
noncomputable def r5_1 (k : KT R) : KT R := fun fr H => opn 17 fr (fun s0 s1 s4 s5 s7 s10 s19 s27 s29 s31 s36 s42 s45 s51 s57 s63 s69 => 
(qLenL s0 fun v9 =>
qGtr X 3 v9 (.int .i64 30) fun v10 =>
k [s0, s1, s4, s5, s7, v10, s19, s27, s29, s31, s36, s42, s45, s51, s57, s63, s69] H : R))
noncomputable def r5_0 (k : KT R) : KT R := fun fr H => opn 17 fr (fun s0 s1 s4 s5 s7 s10 s19 s27 s29 s31 s36 s42 s45 s51 s57 s63 s69 => 
(k [s0, s1, (.bool false), s5, s7, s10, s19, s27, s29, s31, s36, s42, s45, s51, s57, s63, s69] H : R))
noncomputable def c5 (C : CallF) (l0 : List AV) (H : AH) (k : AV → AH → R) : R := opn 2 l0 (fun x0 x1 => (qFn (fun kr => (r5_0 (r5_1 (qCd (sel 5) (fun _ => (r5_2 C kr)) (fun k12 => k12) (r5_3 C (r5_4 C (qCd (sel 6) (fun _ => (r5_5 kr)) (fun k11 => k11) (r5_6 (r5_7 C (qCd (sel 7) (fun _ => (r5_8 kr)) (fun k10 => k10) (r5_9 C (qBl (fun k1 => (r5_11 (qCd (sel 9) (fun k2 => (r5_12 k2)) (fun k2 => (r5_13 (qCd (sel 10) (fun k3 => (r5_14 k3)) (fun k3 => (r5_15 (qCd (sel 11) (fun k4 => (r5_16 k4)) (fun k4 => (r5_17 (qCd (sel 12) (fun k5 => (r5_18 k5)) (fun k5 => (r5_19 (qCd (sel 13) (fun k6 => (r5_20 k6)) (fun k6 => (r5_21 (qCd (sel 14) (fun k7 => (r5_22 k7)) (fun k7 => (r5_23 (qCd (sel 15) (fun k8 => (r5_24 k8)) (fun k8 => (r5_25 (qCd (sel 16) (fun k9 => (r5_26 k9)) (fun k9 => (r5_10 k9)) k8))) k7))) k6))) k5))) k4))) k3))) k2))) k1))) (r5_27 C kr)))))))))))))
(fun fr H => k (sel 2 fr) H) [x0, x1, Aes.undef, Aes.undef, Aes.undef, Aes.undef, Aes.undef, Aes.undef, Aes.undef, Aes.undef, Aes.undef, Aes.undef, Aes.undef, Aes.undef, Aes.undef, Aes.undef, Aes.undef] H : R))
/- refectory/refectorylaw02.JvalForms -/
noncomputable def r6_18 (C : CallF) (k : KT R) : KT R := fun fr H => opn 26 fr (fun s0 s1 s2 s3 s8 s9 s10 s11 s12 s13 s14 s15 s16 s17 s18 s19 s21 s23 s25 s35 s96 s131 s132 s133 s134 s148 => 
(qNot s25 fun v157 =>
qG v157 true (fun k => qRes (C 14 [] H) k) H fun v159 H =>
qPick v157 v159 (.bool false) fun v160 =>
k [s0, s1, s2, s3, v160, s9, s10, s11, s12, s13, s14, s15, s16, s17, s18, s19, s21, s23, s25, s35, s96, s131, s132, s133, s134, s148] H : R))
noncomputable def r6_17 (C : CallF) (k : KT R) : KT R := fun fr H => opn 26 fr (fun s0 s1 s2 s3 s8 s9 s10 s11 s12 s13 s14 s15 s16 s17 s18 s19 s21 s23 s25 s35 s96 s131 s132 s133 s134 s148 => 
(qAdd X 9 (.str [48]) s10 fun v152 =>
qRes (C 15 [v152] H) fun v153 H =>
qExt v153 0 fun v154 =>
qExt v153 1 fun v155 =>
k [s0, s1, s2, s3, s8, s9, s10, s11, s12, s13, s14, s15, s16, s17, s18, s19, s21, s23, v155, s35, s96, s131, s132, s133, s134, s148] H : R))
noncomputable def r6_16 (k : KT R) : KT R := fun fr H => opn 26 fr (fun s0 s1 s2 s3 s8 s9 s10 s11 s12 s13 s14 s15 s16 s17 s18 s19 s21 s23 s25 s35 s96 s131 s132 s133 s134 s148 => 
(qAdd X 3 s133 (.int .i64 1) fun v149 =>
k [s0, s1, s2, s3, s8, s9, s10, s11, s12, s13, s14, s15, s16, s17, s18, s19, s21, s23, s25, s35, s96, s131, s132, v149, s134, s148] H : R))
noncomputable def r6_15 (k : KT R) : KT R := fun fr H => opn 26 fr (fun s0 s1 s2 s3 s8 s9 s10 s11 s12 s13 s14 s15 s16 s17 s18 s19 s21 s23 s25 s35 s96 s131 s132 s133 s134 s148 => 
(k [s0, s1, s2, s3, (.bool false), s9, s10, s11, s12, s13, s14, s15, s16, s17, s18, s19, s21, s23, s25, s35, s96, s131, s132, s133, s134, s148] H : R))
noncomputable def r6_14 (k : KT R) : KT R := fun fr H => opn 26 fr (fun s0 s1 s2 s3 s8 s9 s10 s11 s12 s13 s14 s15 s16 s17 s18 s19 s21 s23 s25 s35 s96 s131 s132 s133 s134 s148 => 
(qG s23 true (fun k => k s21 H) H fun v144 H =>
qG s23 true (fun k => k s10 H) H fun v145 H =>
qG s23 true (fun k => qAdd X 9 (.str [48]) v145 fun v => k v H) H fun v146 H =>
qG s23 true (fun k => qNeq X 9 v144 v146 fun v => k v H) H fun v147 H =>
qPick s23 v147 (.bool false) fun v148 =>
k [s0, s1, s2, s3, s8, s9, s10, s11, s12, s13, s14, s15, s16, s17, s18, s19, s21, s23, s25, s35, s96, s131, s132, s133, s134, v148] H : R))
noncomputable def r6_13 (C : CallF) (k : KT R) : KT R := fun fr H => opn 26 fr (fun s0 s1 s2 s3 s8 s9 s10 s11 s12 s13 s14 s15 s16 s17 s18 s19 s21 s23 s25 s35 s96 s131 s132 s133 s134 s148 => 
(qRes (C 15 [s21] H) fun v139 H =>
qExt v139 0 fun v140 =>
qExt v139 1 fun v141 =>
k [s0, s1, s2, s3, s8, s9, s10, s11, s12, s13, s14, s15, s16, s17, s18, s19, s21, v141, s25, s35, s96, s131, s132, s133, s134, s148] H : R))
noncomputable def r6_12 (k : KT R) : KT R := fun fr H => opn 26 fr (fun s0 s1 s2 s3 s8 s9 s10 s11 s12 s13 s14 s15 s16 s17 s18 s19 s21 s23 s25 s35 s96 s131 s132 s133 s134 s148 => 
(qIa 1 s131 s133 fun v135 =>
qLd v135 H fun v136 =>
k [s0, s1, s2, s3, s8, s9, s10, s11, s12, s13, s14, s15, s16, s17, s18, s19, v136, s23, s25, s35, s96, s131, s132, s133, s134, s148] H : R))
noncomputable def r6_11 (k : KT R) : KT R := fun fr H => opn 26 fr (fun s0 s1 s2 s3 s8 s9 s10 s11 s12 s13 s14 s15 s16 s17 s18 s19 s21 s23 s25 s35 s96 s131 s132 s133 s134 s148 => 
(qLss X 3 s133 s132 fun v134 =>
k [s0, s1, s2, s3, s8, s9, s10, s11, s12, s13, s14, s15, s16, s17, s18, s19, s21, s23, s25, s35, s96, s131, s132, s133, v134, s148] H : R))
noncomputable def l6_5 (C : CallF) (k1 : KT R) (kr : KT R) : KT R → KT R := fun k2 => (r6_11 (qCd (sel 24) (fun k5 => k5) (fun _ => k1) (qBl (fun k3 => (r6_12 (r6_13 C (r6_14 (qCd (sel 25) (fun _ => (r6_15 kr)) (fun k4 => k4) k3))))) (r6_16 k2))))
noncomputable def r6_10 (k : KT R) : KT R := fun fr H => opn 26 fr (fun s0 s1 s2 s3 s8 s9 s10 s11 s12 s13 s14 s15 s16 s17 s18 s19 s21 s23 s25 s35 s96 s131 s132 s133 s134 s148 => 
(qAdd X 9 s9 (.str [46]) fun v98 =>
qAdd X 9 s9 (.str [101]) fun v100 =>
qAdd X 9 s9 (.str [101,43]) fun v102 =>
qAdd X 9 (.str [46]) s10 fun v104 =>
qAdd X 9 (.str [48]) s10 fun v106 =>
qAdd X 9 (.str [43]) s9 fun v108 =>
qAdd X 9 s9 (.str [32]) fun v110 =>
qAdd X 9 (.str [32]) s9 fun v112 =>
qAdd X 9 (.str [45,45]) s9 fun v114 =>
qAdd X 9 s9 (.str [46]) fun v116 =>
qAdd X 9 v116 s10 fun v118 =>
qAdd X 9 v118 (.str [46]) fun v119 =>
qAdd X 9 v119 s11 fun v121 =>
qAdd X 9 s9 (.str [101]) fun v123 =>
qAdd X 9 v123 s11 fun v125 =>
qAdd X 9 v125 (.str [101]) fun v126 =>
qAdd X 9 v126 s11 fun v128 =>
qAdd X 9 s9 (.str [120]) fun v130 =>
qRows z9 12 [(0, v98), (1, v100), (2, v102), (3, v104), (4, v106), (5, v108), (6, v110), (7, v112), (8, v114), (9, v121), (10, v128), (11, v130)] fun v131 =>
qLenL v131 fun v132 =>
k [s0, s1, s2, s3, s8, s9, s10, s11, s12, s13, s14, s15, s16, s17, s18, s19, s21, s23, s25, s35, s96, v131, v132, (.int .i64 0), s134, s148] H : R))
noncomputable def r6_9 (k : KT R) : KT R := fun fr H => opn 26 fr (fun s0 s1 s2 s3 s8 s9 s10 s11 s12 s13 s14 s15 s16 s17 s18 s19 s21 s23 s25 s35 s96 s131 s132 s133 s134 s148 => 
(k [s0, s1, s2, s3, (.bool false), s9, s10, s11, s12, s13, s14, s15, s16, s17, s18, s19, s21, s23, s25, s35, s96, s131, s132, s133, s134, s148] H : R))
noncomputable def r6_8 (k : KT R) : KT R := fun fr H => opn 26 fr (fun s0 s1 s2 s3 s8 s9 s10 s11 s12 s13 s14 s15 s16 s17 s18 s19 s21 s23 s25 s35 s96 s131 s132 s133 s134 s148 => 
(qNot s13 fun v71 =>
qG v71 false (fun k => k s12 H) H fun v73 H =>
qG v71 false (fun k => qNot v73 fun v => k v H) H fun v74 H =>
qPick v71 (.bool true) v74 fun v75 =>
qG v75 false (fun k => k s15 H) H fun v77 H =>
qG v75 false (fun k => qNot v77 fun v => k v H) H fun v78 H =>
qPick v75 (.bool true) v78 fun v79 =>
qG v79 false (fun k => k s14 H) H fun v81 H =>
qPick v79 (.bool true) v81 fun v82 =>
qG v82 false (fun k => k s17 H) H fun v84 H =>
qG v82 false (fun k => qNot v84 fun v => k v H) H fun v85 H =>
qPick v82 (.bool true) v85 fun v86 =>
qG v86 false (fun k => k s16 H) H fun v88 H =>
qPick v86 (.bool true) v88 fun v89 =>
qG v89 false (fun k => k s19 H) H fun v91 H =>
qG v89 false (fun k => qNot v91 fun v => k v H) H fun v92 H =>
qPick v89 (.bool true) v92 fun v93 =>
qG v93 false (fun k => k s18 H) H fun v95 H =>
qPick v93 (.bool true) v95 fun v96 =>
k [s0, s1, s2, s3, s8, s9, s10, s11, s12, s13, s14, s15, s16, s17, s18, s19, s21, s23, s25, s35, v96, s131, s132, s133, s134, s148] H : R))
noncomputable def r6_7 (C : CallF) (k : KT R) : KT R := fun fr H => opn 26 fr (fun s0 s1 s2 s3 s8 s9 s10 s11 s12 s13 s14 s15 s16 s17 s18 s19 s21 s23 s25 s35 s96 s131 s132 s133 s134 s148 => 
(qAdd X 9 s9 (.str [46]) fun v61 =>
qAdd X 9 v61 s10 fun v63 =>
qAdd X 9 v63 (.str [69,45]) fun v64 =>
qAdd X 9 v64 s11 fun v66 =>
qRes (C 15 [v66] H) fun v67 H =>
qExt v67 0 fun v68 =>
qExt v67 1 fun v69 =>
k [s0, s1, s2, s3, s8, s9, s10, s11, s12, s13, s14, s15, s16, s17, v68, v69, s21, s23, s25, s35, s96, s131, s132, s133, s134, s148] H : R))
noncomputable def r6_6 (C : CallF) (k : KT R) : KT R := fun fr H => opn 26 fr (fun s0 s1 s2 s3 s8 s9 s10 s11 s12 s13 s14 s15 s16 s17 s18 s19 s21 s23 s25 s35 s96 s131 s132 s133 s134 s148 => 
(qAdd X 9 s9 (.str [101]) fun v53 =>
qAdd X 9 v53 s11 fun v55 =>
qRes (C 15 [v55] H) fun v56 H =>
qExt v56 0 fun v57 =>
qExt v56 1 fun v58 =>
k [s0, s1, s2, s3, s8, s9, s10, s11, s12, s13, s14, s15, v57, v58, s18, s19, s21, s23, s25, s35, s96, s131, s132, s133, s134, s148] H : R))
noncomputable def r6_5 (C : CallF) (k : KT R) : KT R := fun fr H => opn 26 fr (fun s0 s1 s2 s3 s8 s9 s10 s11 s12 s13 s14 s15 s16 s17 s18 s19 s21 s23 s25 s35 s96 s131 s132 s133 s134 s148 => 
(qAdd X 9 s9 (.str [46]) fun v45 =>
qAdd X 9 v45 s10 fun v47 =>
qRes (C 15 [v47] H) fun v48 H =>
qExt v48 0 fun v49 =>
qExt v48 1 fun v50 =>
k [s0, s1, s2, s3, s8, s9, s10, s11, s12, s13, v49, v50, s16, s17, s18, s19, s21, s23, s25, s35, s96, s131, s132, s133, s134, s148] H : R))
noncomputable def r6_4 (C : CallF) (k : KT R) : KT R := fun fr H => opn 26 fr (fun s0 s1 s2 s3 s8 s9 s10 s11 s12 s13 s14 s15 s16 s17 s18 s19 s21 s23 s25 s35 s96 s131 s132 s133 s134 s148 => 
(qRes (C 15 [s9] H) fun v40 H =>
qExt v40 0 fun v41 =>
qExt v40 1 fun v42 =>
k [s0, s1, s2, s3, s8, s9, s10, s11, v41, v42, s14, s15, s16, s17, s18, s19, s21, s23, s25, s35, s96, s131, s132, s133, s134, s148] H : R))
noncomputable def r6_3 (k : KT R) : KT R := fun fr H => opn 26 fr (fun s0 s1 s2 s3 s8 s9 s10 s11 s12 s13 s14 s15 s16 s17 s18 s19 s21 s23 s25 s35 s96 s131 s132 s133 s134 s148 => 
(qAdd X 9 (.str [45]) s9 fun v37 =>
k [s0, s1, s2, s3, s8, v37, s10, s11, s12, s13, s14, s15, s16, s17, s18, s19, s21, s23, s25, s35, s96, s131, s132, s133, s134, s148] H : R))
noncomputable def r6_2 (k : KT R) : KT R := fun fr H => opn 26 fr (fun s0 s1 s2 s3 s8 s9 s10 s11 s12 s13 s14 s15 s16 s17 s18 s19 s21 s23 s25 s35 s96 s131 s132 s133 s134 s148 => 
(k [s0, s1, s2, s3, s8, s9, s10, s11, s12, s13, s14, s15, s16, s17, s18, s19, s21, s23, s25, s3, s96, s131, s132, s133, s134, s148] H : R))
noncomputable def r6_1 (C : CallF) (k : KT R) : KT R := fun fr H => opn 26 fr (fun s0 s1 s2 s3 s8 s9 s10 s11 s12 s13 s14 s15 s16 s17 s18 s19 s21 s23 s25 s35 s96 s131 s132 s133 s134 s148 => 
(qRes (C 26 [s0, (.int .i64 1000000)] H) fun v27 H =>
qRes (C 27 [v27] H) fun v28 H =>
qRes (C 26 [s1, (.int .i64 1000000)] H) fun v30 H =>
qRes (C 27 [v30] H) fun v31 H =>
qRes (C 26 [s2, (.int .i64 1000)] H) fun v33 H =>
qRes (C 27 [v33] H) fun v34 H =>
k [s0, s1, s2, s3, s8, v28, v31, v34, s12, s13, s14, s15, s16, s17, s18, s19, s21, s23, s25, s35, s96, s131, s132, s133, s134, s148] H : R))
noncomputable def r6_0 (k : KT R) : KT R := fun fr H => opn 26 fr (fun s0 s1 s2 s3 s8 s9 s10 s11 s12 s13 s14 s15 s16 s17 s18 s19 s21 s23 s25 s35 s96 s131 s132 s133 s134 s148 => 
(k [s0, s1, s2, s3, (.bool false), s9, s10, s11, s12, s13, s14, s15, s16, s17, s18, s19, s21, s23, s25, s35, s96, s131, s132, s133, s134, s148] H : R))
noncomputable def c6 (C : CallF) (l0 : List AV) (H : AH) (k : AV → AH → R) : R := opn 4 l0 (fun x0 x1 x2 x3 => (qFn (fun kr => (r6_0 (r6_1 C (r6_2 (qCd (sel 19) (fun k7 => (r6_3 k7)) (fun k7 => k7) (r6_4 C (r6_5 C (r6_6 C (r6_7 C (r6_8 (qCd (sel 20) (fun _ => (r6_9 kr)) (fun k6 => k6) (r6_10 (qBl (fun k1 => (qLoop (l6_5 C k1 kr))) (r6_17 C (r6_18 C kr)))))))))))))))
(fun fr H => k (sel 4 fr) H) [x0, x1, x2, x3, Aes.undef, Aes.undef, Aes.undef, Aes.undef, Aes.undef, Aes.undef, Aes.undef, Aes.undef, Aes.undef, Aes.undef, Aes.undef, Aes.undef, Aes.undef, Aes.undef, Aes.undef, Aes.undef, Aes.undef, Aes.undef, Aes.undef, Aes.undef, Aes.undef, Aes.undef] H : R))
/- refectory/refectorylaw01.RunesBack -/
noncomputable def r7_10 (C : CallF) (k : KT R) : KT R := fun fr H => opn 10 fr (fun s0 s1 s4 s5 s6 s7 s9 s12 s18 s40 => 
(qNot s9 fun v53 =>
qG v53 true (fun k => qRes (C 28 [] H) k) H fun v55 H =>
qPick v53 v55 (.bool false) fun v56 =>
k [s0, s1, v56, s5, s6, s7, s9, s12, s18, s40] H : R))
noncomputable def r7_9 (C : CallF) (k : KT R) : KT R := fun fr H => opn 10 fr (fun s0 s1 s4 s5 s6 s7 s9 s12 s18 s40 => 
(qLenS s5 fun v45 =>
qSub X 3 v45 (.int .i64 1) fun v46 =>
qRes (C 26 [s1, v46] H) fun v47 H =>
qSlc Tryd.t9.desc 0 s5 none (some v47) none fun v48 =>
qRes (C 31 [v48] H) fun v49 H =>
qExt v49 0 fun v50 =>
qExt v49 1 fun v51 =>
k [s0, s1, s4, s5, s6, s7, v51, s12, s18, s40] H : R))
noncomputable def r7_8 (k : KT R) : KT R := fun fr H => opn 10 fr (fun s0 s1 s4 s5 s6 s7 s9 s12 s18 s40 => 
(k [s0, s1, (.bool false), s5, s6, s7, s9, s12, s18, s40] H : R))
noncomputable def r7_7 (k : KT R) : KT R := fun fr H => opn 10 fr (fun s0 s1 s4 s5 s6 s7 s9 s12 s18 s40 => 
(qNot s7 fun v30 =>
qG v30 false (fun k => k s6 H) H fun v32 H =>
qG v30 false (fun k => k s0 H) H fun v33 H =>
qG v30 false (fun k => qNeq X 9 v32 v33 fun v => k v H) H fun v34 H =>
qPick v30 (.bool true) v34 fun v35 =>
qG v35 false (fun k => k s5 H) H fun v37 H =>
qG v35 false (fun k => qLenS v37 fun v => k v H) H fun v38 H =>
qG v35 false (fun k => qLss X 3 v38 (.int .i64 2) fun v => k v H) H fun v39 H =>
qPick v35 (.bool true) v39 fun v40 =>
k [s0, s1, s4, s5, s6, s7, s9, s12, s18, v40] H : R))
noncomputable def r7_6 (C : CallF) (k : KT R) : KT R := fun fr H => opn 10 fr (fun s0 s1 s4 s5 s6 s7 s9 s12 s18 s40 => 
(qRes (C 31 [s5] H) fun v26 H =>
qExt v26 0 fun v27 =>
qExt v26 1 fun v28 =>
k [s0, s1, s4, s5, v27, v28, s9, s12, s18, s40] H : R))
noncomputable def r7_5 (C : CallF) (k : KT R) : KT R := fun fr H => opn 10 fr (fun s0 s1 s4 s5 s6 s7 s9 s12 s18 s40 => 
(qEql X 9 s5 (.str []) fun v20 =>
qG v20 true (fun k => qRes (C 28 [] H) k) H fun v22 H =>
qPick v20 v22 (.bool false) fun v23 =>
k [s0, s1, v23, s5, s6, s7, s9, s12, s18, s40] H : R))
noncomputable def r7_4 (C : CallF) (k : KT R) : KT R := fun fr H => opn 10 fr (fun s0 s1 s4 s5 s6 s7 s9 s12 s18 s40 => 
(qRes (C 30 [s0] H) fun v17 H =>
qNot v17 fun v18 =>
k [s0, s1, s4, s5, s6, s7, s9, s12, v18, s40] H : R))
noncomputable def r7_3 (C : CallF) (k : KT R) : KT R := fun fr H => opn 10 fr (fun s0 s1 s4 s5 s6 s7 s9 s12 s18 s40 => 
(qRes (C 29 [s0] H) fun v15 H =>
k [s0, s1, s4, v15, s6, s7, s9, s12, s18, s40] H : R))
noncomputable def r7_2 (C : CallF) (k : KT R) : KT R := fun fr H => opn 10 fr (fun s0 s1 s4 s5 s6 s7 s9 s12 s18 s40 => 
(qRes (C 28 [] H) fun v13 H =>
k [s0, s1, v13, s5, s6, s7, s9, s12, s18, s40] H : R))
noncomputable def r7_1 (k : KT R) : KT R := fun fr H => opn 10 fr (fun s0 s1 s4 s5 s6 s7 s9 s12 s18 s40 => 
(qLenS s0 fun v11 =>
qGtr X 3 v11 (.int .i64 1000) fun v12 =>
k [s0, s1, s4, s5, s6, s7, s9, v12, s18, s40] H : R))
noncomputable def r7_0 (k : KT R) : KT R := fun fr H => opn 10 fr (fun s0 s1 s4 s5 s6 s7 s9 s12 s18 s40 => 
(k [s0, s1, (.bool false), s5, s6, s7, s9, s12, s18, s40] H : R))
noncomputable def c7 (C : CallF) (l0 : List AV) (H : AH) (k : AV → AH → R) : R := opn 2 l0 (fun x0 x1 => (qFn (fun kr => (r7_0 (r7_1 (qCd (sel 7) (fun _ => (r7_2 C kr)) (fun k3 => k3) (r7_3 C (r7_4 C (qCd (sel 8) (fun _ => (r7_5 C kr)) (fun k2 => k2) (r7_6 C (r7_7 (qCd (sel 9) (fun _ => (r7_8 kr)) (fun k1 => k1) (r7_9 C (r7_10 C kr))))))))))))
(fun fr H => k (sel 2 fr) H) [x0, x1, Aes.undef, Aes.undef, Aes.undef, Aes.undef, Aes.undef, Aes.undef, Aes.undef, Aes.undef] H : R))
/- refectory/refectorylaw01.RunesBlocks -/
noncomputable def r12_16 (C : CallF) (k : KT R) : KT R := fun fr H => opn 14 fr (fun s0 s1 s4 s5 s6 s7 s8 s9 s10 s11 s12 s13 s26 s43 => 
(qRes (C 38 [s7] H) fun v69 H =>
qEql X 9 v69 s8 fun v71 =>
qG v71 true (fun k => k s6 H) H fun v73 H =>
qG v71 true (fun k => qAdd X 9 v73 (.str [32,32]) fun v => k v H) H fun v74 H =>
qG v71 true (fun k => k s6 H) H fun v75 H =>
qG v71 true (fun k => qAdd X 9 v74 v75 fun v => k v H) H fun v76 H =>
qG v71 true (fun k => k s7 H) H fun v77 H =>
qG v71 true (fun k => qAdd X 9 v76 v77 fun v => k v H) H fun v78 H =>
qG v71 true (fun k => k s6 H) H fun v79 H =>
qG v71 true (fun k => qAdd X 9 v78 v79 fun v => k v H) H fun v80 H =>
qG v71 true (fun k => k s6 H) H fun v81 H =>
qG v71 true (fun k => qAdd X 9 v80 v81 fun v => k v H) H fun v82 H =>
qG v71 true (fun k => qAdd X 9 v82 (.str [32,32,32]) fun v => k v H) H fun v83 H =>
qG v71 true (fun k => qRes (C 38 [v83] H) k) H fun v84 H =>
qG v71 true (fun k => k s6 H) H fun v85 H =>
qG v71 true (fun k => k s7 H) H fun v86 H =>
qG v71 true (fun k => qAdd X 9 v85 v86 fun v => k v H) H fun v87 H =>
qG v71 true (fun k => qRes (C 38 [v87] H) k) H fun v88 H =>
qG v71 true (fun k => qEql X 9 v84 v88 fun v => k v H) H fun v89 H =>
qPick v71 v89 (.bool false) fun v90 =>
qG v90 true (fun k => qRes (C 28 [] H) k) H fun v92 H =>
qPick v90 v92 (.bool false) fun v93 =>
k [s0, s1, v93, s5, s6, s7, s8, s9, s10, s11, s12, s13, s26, s43] H : R))
noncomputable def r12_12 (k : KT R) : KT R := fun fr H => opn 14 fr (fun s0 s1 s4 s5 s6 s7 s8 s9 s10 s11 s12 s13 s26 s43 => 
(qAdd X 3 s12 (.int .i64 1) fun v45 =>
k [s0, s1, s4, s5, s6, s7, s8, s9, s10, s11, v45, s13, s26, s43] H : R))
noncomputable def r12_15 (k : KT R) : KT R := fun fr H => opn 14 fr (fun s0 s1 s4 s5 s6 s7 s8 s9 s10 s11 s12 s13 s26 s43 => 
(qAdd X 9 s8 (.str [10]) fun v60 =>
qSub X 3 s13 s9 fun v64 =>
qSlc Tryd.t9.desc 0 s11 none (some v64) none fun v65 =>
qAdd X 9 v60 v65 fun v66 =>
qAdd X 9 v66 (.str [120]) fun v67 =>
k [s0, s1, s4, s5, s6, s7, v67, s9, s10, s11, s12, s13, s26, s43] H : R))
noncomputable def r12_14 (k : KT R) : KT R := fun fr H => opn 14 fr (fun s0 s1 s4 s5 s6 s7 s8 s9 s10 s11 s12 s13 s26 s43 => 
(qAdd X 9 s7 s6 fun v53 =>
qSlc Tryd.t9.desc 0 s11 none (some s13) none fun v56 =>
qAdd X 9 v53 v56 fun v57 =>
qAdd X 9 v57 (.str [120]) fun v58 =>
k [s0, s1, s4, s5, s6, v58, s8, s9, s10, s11, s12, s13, s26, s43] H : R))
noncomputable def r12_13 (C : CallF) (k : KT R) : KT R := fun fr H => opn 14 fr (fun s0 s1 s4 s5 s6 s7 s8 s9 s10 s11 s12 s13 s26 s43 => 
(qIa 1 s0 s12 fun v48 =>
qLd v48 H fun v49 =>
qRes (C 26 [v49, (.int .i64 7)] H) fun v50 H =>
k [s0, s1, s4, s5, s6, s7, s8, s9, s10, s11, s12, v50, s26, s43] H : R))
noncomputable def r12_11 (k : KT R) : KT R := fun fr H => opn 14 fr (fun s0 s1 s4 s5 s6 s7 s8 s9 s10 s11 s12 s13 s26 s43 => 
(qLenL s0 fun v38 =>
qLss X 3 s12 v38 fun v39 =>
qG v39 true (fun k => k s12 H) H fun v41 H =>
qG v39 true (fun k => qLss X 3 v41 (.int .i64 20) fun v => k v H) H fun v42 H =>
qPick v39 v42 (.bool false) fun v43 =>
k [s0, s1, s4, s5, s6, s7, s8, s9, s10, s11, s12, s13, s26, v43] H : R))
noncomputable def l12_4 (C : CallF) (k1 : KT R) : KT R → KT R := fun k2 => (r12_11 (qCd (sel 13) (fun k4 => k4) (fun _ => k1) (qBl (fun k3 => (r12_13 C (r12_14 (r12_15 k3)))) (r12_12 k2))))
noncomputable def r12_10 (k : KT R) : KT R := fun fr H => opn 14 fr (fun s0 s1 s4 s5 s6 s7 s8 s9 s10 s11 s12 s13 s26 s43 => 
(k [s0, s1, s4, s5, s6, s7, s8, s9, s10, s11, (.int .i64 0), s13, s26, s43] H : R))
noncomputable def r12_9 (k : KT R) : KT R := fun fr H => opn 14 fr (fun s0 s1 s4 s5 s6 s7 s8 s9 s10 s11 s12 s13 s26 s43 => 
(k [s0, s1, s4, s5, s6, s7, s8, s9, s10, (.str [32,32,32,32,32,32,32,32,32,32]), s12, s13, s26, s43] H : R))
noncomputable def r12_7 (k : KT R) : KT R := fun fr H => opn 14 fr (fun s0 s1 s4 s5 s6 s7 s8 s9 s10 s11 s12 s13 s26 s43 => 
(qAdd X 3 s10 (.int .i64 1) fun v28 =>
k [s0, s1, s4, s5, s6, s7, s8, s9, v28, s11, s12, s13, s26, s43] H : R))
noncomputable def r12_8 (C : CallF) (k : KT R) : KT R := fun fr H => opn 14 fr (fun s0 s1 s4 s5 s6 s7 s8 s9 s10 s11 s12 s13 s26 s43 => 
(qIa 1 s0 s10 fun v32 =>
qLd v32 H fun v33 =>
qRes (C 26 [v33, (.int .i64 7)] H) fun v34 H =>
qO (foldO min2 s9 [v34]) fun v35 =>
k [s0, s1, s4, s5, s6, s7, s8, v35, s10, s11, s12, s13, s26, s43] H : R))
noncomputable def r12_6 (k : KT R) : KT R := fun fr H => opn 14 fr (fun s0 s1 s4 s5 s6 s7 s8 s9 s10 s11 s12 s13 s26 s43 => 
(qLenL s0 fun v21 =>
qLss X 3 s10 v21 fun v22 =>
qG v22 true (fun k => k s10 H) H fun v24 H =>
qG v22 true (fun k => qLss X 3 v24 (.int .i64 20) fun v => k v H) H fun v25 H =>
qPick v22 v25 (.bool false) fun v26 =>
k [s0, s1, s4, s5, s6, s7, s8, s9, s10, s11, s12, s13, v26, s43] H : R))
noncomputable def l12_8 (C : CallF) (k5 : KT R) : KT R → KT R := fun k6 => (r12_6 (qCd (sel 12) (fun k8 => k8) (fun _ => k5) (qBl (fun k7 => (r12_8 C k7)) (r12_7 k6))))
noncomputable def r12_5 (k : KT R) : KT R := fun fr H => opn 14 fr (fun s0 s1 s4 s5 s6 s7 s8 s9 s10 s11 s12 s13 s26 s43 => 
(k [s0, s1, s4, s5, s6, s7, s8, s9, (.int .i64 0), s11, s12, s13, s26, s43] H : R))
noncomputable def r12_4 (k : KT R) : KT R := fun fr H => opn 14 fr (fun s0 s1 s4 s5 s6 s7 s8 s9 s10 s11 s12 s13 s26 s43 => 
(k [s0, s1, s4, s5, s6, s7, s8, (.int .i64 99), s10, s11, s12, s13, s26, s43] H : R))
noncomputable def r12_3 (k : KT R) : KT R := fun fr H => opn 14 fr (fun s0 s1 s4 s5 s6 s7 s8 s9 s10 s11 s12 s13 s26 s43 => 
(k [s0, s1, s4, s5, s6, (.str [102,105,114,115,116]), (.str [102,105,114,115,116]), s9, s10, s11, s12, s13, s26, s43] H : R))
noncomputable def r12_2 (k : KT R) : KT R := fun fr H => opn 14 fr (fun s0 s1 s4 s5 s6 s7 s8 s9 s10 s11 s12 s13 s26 s43 => 
(qBld z55 [(0, 1, (.str [10])), (1, 1, (.str [13])), (2, 1, (.str [13,10]))] fun v16 =>
qO (indexOf X 55 v16 s5) fun v18 =>
k [s0, s1, s4, s5, v18, s7, s8, s9, s10, s11, s12, s13, s26, s43] H : R))
noncomputable def r12_1 (C : CallF) (k : KT R) : KT R := fun fr H => opn 14 fr (fun s0 s1 s4 s5 s6 s7 s8 s9 s10 s11 s12 s13 s26 s43 => 
(qRes (C 26 [s1, (.int .i64 3)] H) fun v15 H =>
k [s0, s1, s4, v15, s6, s7, s8, s9, s10, s11, s12, s13, s26, s43] H : R))
noncomputable def r12_0 (k : KT R) : KT R := fun fr H => opn 14 fr (fun s0 s1 s4 s5 s6 s7 s8 s9 s10 s11 s12 s13 s26 s43 => 
(k [s0, s1, (.bool false), s5, s6, s7, s8, s9, s10, s11, s12, s13, s26, s43] H : R))
noncomputable def c12 (C : CallF) (l0 : List AV) (H : AH) (k : AV → AH → R) : R := opn 2 l0 (fun x0 x1 => (qFn (fun kr => (r12_0 (r12_1 C (r12_2 (r12_3 (r12_4 (r12_5 (qBl (fun k5 => (qLoop (l12_8 C k5))) (r12_9 (r12_10 (qBl (fun k1 => (qLoop (l12_4 C k1))) (r12_16 C kr))))))))))))
(fun fr H => k (sel 2 fr) H) [x0, x1, Aes.undef, Aes.undef, Aes.undef, Aes.undef, Aes.undef, Aes.undef, Aes.undef, Aes.undef, Aes.undef, Aes.undef, Aes.undef, Aes.undef] H : R))
/- refectory/refectorylaw02.awake -/
noncomputable def r14_3 (C : CallF) (k : KT R) : KT R := fun fr H => opn 4 fr (fun s0 s1 s2 s3 => 
(qLdA 4 s1 H fun v13 =>
qRes (C 21 [v13] H) fun v14 H =>
qEql X 9 v14 (.str [123,34,97,34,58,49,125]) fun v15 =>
qG v15 true (fun k => k s3 H) H fun v17 H =>
qPick v15 v17 (.bool false) fun v18 =>
qG v18 true (fun k => qFa 1 s2 fun v => k v H) H fun v20 H =>
qG v18 true (fun k => qLd v20 H fun v => k v H) H fun v21 H =>
qG v18 true (fun k => qEql X 9 v21 (.str [49]) fun v => k v H) H fun v22 H =>
qPick v18 v22 (.bool false) fun v23 =>
qG v23 true (fun k => qLdA 4 s1 H fun v => k v H) H fun v25 H =>
qG v23 true (fun k => qRes (C 19 [v25] H) k) H fun v26 H =>
qPick v23 v26 (.bool false) fun v27 =>
qG v27 true (fun k => qLdA 4 s1 H fun v => k v H) H fun v29 H =>
qG v27 true (fun k => qLdA 4 s1 H fun v => k v H) H fun v30 H =>
qG v27 true (fun k => qRes (C 23 [v29, v30] H) k) H fun v31 H =>
qPick v27 v31 (.bool false) fun v32 =>
k [v32, s1, s2, s3] H : R))
noncomputable def r14_2 (C : CallF) (k : KT R) : KT R := fun fr H => opn 4 fr (fun s0 s1 s2 s3 => 
(qLdA 4 s1 H fun v9 =>
qRes (C 17 [v9, (.str [97])] H) fun v10 H =>
qExt v10 0 fun v11 =>
qExt v10 1 fun v12 =>
qNew (.cells z25) .ptr H fun v2 H =>
qSt 4 v2 v11 H fun _ H =>
k [s0, s1, v2, v12] H : R))
noncomputable def r14_1 (k : KT R) : KT R := fun fr H => opn 4 fr (fun s0 s1 s2 s3 => 
(qRows z9 1 [(0, (.str [97]))] fun v4 =>
qBld z25 [(0, 1, (.int .i64 3)), (1, 1, (.str [49]))] fun v5 =>
qRows z25 1 [(0, v5)] fun v6 =>
qBld z25 [(0, 1, (.int .i64 8)), (2, 1, v4), (3, 1, v6)] fun v7 =>
qNew (.cells z25) .ptr H fun v1 H =>
qSt 4 v1 v7 H fun _ H =>
k [s0, v1, s2, s3] H : R))
noncomputable def r14_0 (k : KT R) : KT R := fun fr H => opn 4 fr (fun s0 s1 s2 s3 => 
(k [(.bool false), s1, s2, s3] H : R))
noncomputable def c14 (C : CallF) (l0 : List AV) (H : AH) (k : AV → AH → R) : R := opn 0 l0 ((qFn (fun kr => (r14_0 (r14_1 (r14_2 C (r14_3 C kr)))))
(fun fr H => k (sel 0 fr) H) [Aes.undef, Aes.undef, Aes.undef, Aes.undef] H : R))
/- refectory/jval.Number -/
noncomputable def r15_23 (k : KT R) : KT R := fun fr H => opn 15 fr (fun s0 s2 s3 s4 s5 s6 s7 s8 s11 s26 s37 s41 s52 s62 s68 => 
(qG s2 true (fun k => k s0 H) H fun v74 H =>
qG s2 true (fun k => qEql X 9 v74 (.str []) fun v => k v H) H fun v75 H =>
qPick s2 v75 (.bool false) fun v76 =>
qEql X 9 s0 (.str []) fun v78 =>
k [s0, v76, v78, s4, s5, s6, s7, s8, s11, s26, s37, s41, s52, s62, s68] H : R))
noncomputable def r15_22 (k : KT R) : KT R := fun fr H => opn 15 fr (fun s0 s2 s3 s4 s5 s6 s7 s8 s11 s26 s37 s41 s52 s62 s68 => 
(qSlc Tryd.t9.desc 0 s0 (some s8) none none fun v71 =>
k [v71, s2, s3, s4, s5, s6, s7, s8, s11, s26, s37, s41, s52, s62, s68] H : R))
noncomputable def r15_21 (k : KT R) : KT R := fun fr H => opn 15 fr (fun s0 s2 s3 s4 s5 s6 s7 s8 s11 s26 s37 s41 s52 s62 s68 => 
(k [s0, (.bool false), (.bool false), s4, s5, s6, s7, s8, s11, s26, s37, s41, s52, s62, s68] H : R))
noncomputable def r15_20 (k : KT R) : KT R := fun fr H => opn 15 fr (fun s0 s2 s3 s4 s5 s6 s7 s8 s11 s26 s37 s41 s52 s62 s68 => 
(qEql X 3 s8 (.int .i64 0) fun v68 =>
k [s0, s2, s3, s4, s5, s6, s7, s8, s11, s26, s37, s41, s52, s62, v68] H : R))
noncomputable def r15_19 (C : CallF) (k : KT R) : KT R := fun fr H => opn 15 fr (fun s0 s2 s3 s4 s5 s6 s7 s8 s11 s26 s37 s41 s52 s62 s68 => 
(qRes (C 41 [s0] H) fun v66 H =>
k [s0, s2, s3, s4, s5, s6, s7, v66, s11, s26, s37, s41, s52, s62, s68] H : R))
noncomputable def r15_18 (k : KT R) : KT R := fun fr H => opn 15 fr (fun s0 s2 s3 s4 s5 s6 s7 s8 s11 s26 s37 s41 s52 s62 s68 => 
(qSlc Tryd.t9.desc 0 s0 (some (.int .i64 1)) none none fun v64 =>
k [v64, s2, s3, s4, s5, s6, s7, s8, s11, s26, s37, s41, s52, s62, s68] H : R))
noncomputable def r15_17 (C : CallF) (k : KT R) : KT R := fun fr H => opn 15 fr (fun s0 s2 s3 s4 s5 s6 s7 s8 s11 s26 s37 s41 s52 s62 s68 => 
(qNeq X 9 s0 (.str []) fun v56 =>
qG v56 true (fun k => k s0 H) H fun v58 H =>
qG v56 true (fun k => qIx v58 (.int .i64 0) fun v => k v H) H fun v59 H =>
qG v56 true (fun k => qRes (C 43 [(.str [43,45]), v59] H) k) H fun v60 H =>
qG v56 true (fun k => qGeq X 3 v60 (.int .i64 0) fun v => k v H) H fun v61 H =>
qPick v56 v61 (.bool false) fun v62 =>
k [s0, s2, s3, s4, s5, s6, s7, s8, s11, s26, s37, s41, s52, v62, s68] H : R))
noncomputable def r15_16 (k : KT R) : KT R := fun fr H => opn 15 fr (fun s0 s2 s3 s4 s5 s6 s7 s8 s11 s26 s37 s41 s52 s62 s68 => 
(qSlc Tryd.t9.desc 0 s0 (some (.int .i64 1)) none none fun v54 =>
k [v54, s2, s3, s4, s5, s6, s7, s8, s11, s26, s37, s41, s52, s62, s68] H : R))
noncomputable def r15_15 (C : CallF) (k : KT R) : KT R := fun fr H => opn 15 fr (fun s0 s2 s3 s4 s5 s6 s7 s8 s11 s26 s37 s41 s52 s62 s68 => 
(qNeq X 9 s0 (.str []) fun v46 =>
qG v46 true (fun k => k s0 H) H fun v48 H =>
qG v46 true (fun k => qIx v48 (.int .i64 0) fun v => k v H) H fun v49 H =>
qG v46 true (fun k => qRes (C 43 [(.str [101,69]), v49] H) k) H fun v50 H =>
qG v46 true (fun k => qGeq X 3 v50 (.int .i64 0) fun v => k v H) H fun v51 H =>
qPick v46 v51 (.bool false) fun v52 =>
k [s0, s2, s3, s4, s5, s6, s7, s8, s11, s26, s37, s41, v52, s62, s68] H : R))
noncomputable def r15_14 (k : KT R) : KT R := fun fr H => opn 15 fr (fun s0 s2 s3 s4 s5 s6 s7 s8 s11 s26 s37 s41 s52 s62 s68 => 
(qSlc Tryd.t9.desc 0 s5 (some s7) none none fun v44 =>
k [v44, s2, s3, s4, s5, s6, s7, s8, s11, s26, s37, s41, s52, s62, s68] H : R))
noncomputable def r15_13 (k : KT R) : KT R := fun fr H => opn 15 fr (fun s0 s2 s3 s4 s5 s6 s7 s8 s11 s26 s37 s41 s52 s62 s68 => 
(k [s0, (.bool false), (.bool false), s4, s5, s6, s7, s8, s11, s26, s37, s41, s52, s62, s68] H : R))
noncomputable def r15_12 (k : KT R) : KT R := fun fr H => opn 15 fr (fun s0 s2 s3 s4 s5 s6 s7 s8 s11 s26 s37 s41 s52 s62 s68 => 
(qEql X 3 s7 (.int .i64 0) fun v41 =>
k [s0, s2, s3, s4, s5, s6, s7, s8, s11, s26, s37, v41, s52, s62, s68] H : R))
noncomputable def r15_11 (C : CallF) (k : KT R) : KT R := fun fr H => opn 15 fr (fun s0 s2 s3 s4 s5 s6 s7 s8 s11 s26 s37 s41 s52 s62 s68 => 
(qRes (C 41 [s5] H) fun v39 H =>
k [s0, s2, s3, s4, s5, s6, v39, s8, s11, s26, s37, s41, s52, s62, s68] H : R))
noncomputable def r15_10 (k : KT R) : KT R := fun fr H => opn 15 fr (fun s0 s2 s3 s4 s5 s6 s7 s8 s11 s26 s37 s41 s52 s62 s68 => 
(k [s0, s2, s3, s4, s5, s6, s7, s8, s11, s26, s6, s41, s52, s62, s68] H : R))
noncomputable def r15_9 (C : CallF) (k : KT R) : KT R := fun fr H => opn 15 fr (fun s0 s2 s3 s4 s5 s6 s7 s8 s11 s26 s37 s41 s52 s62 s68 => 
(qRes (C 42 [s0, (.str [46])] H) fun v34 H =>
qExt v34 0 fun v35 =>
qExt v34 1 fun v36 =>
k [s0, s2, s3, s4, v35, v36, s7, s8, s11, s26, s37, s41, s52, s62, s68] H : R))
noncomputable def r15_8 (k : KT R) : KT R := fun fr H => opn 15 fr (fun s0 s2 s3 s4 s5 s6 s7 s8 s11 s26 s37 s41 s52 s62 s68 => 
(qEql X 9 s0 (.str []) fun v31 =>
k [s0, v31, s3, s4, s5, s6, s7, s8, s11, s26, s37, s41, s52, s62, s68] H : R))
noncomputable def r15_7 (k : KT R) : KT R := fun fr H => opn 15 fr (fun s0 s2 s3 s4 s5 s6 s7 s8 s11 s26 s37 s41 s52 s62 s68 => 
(qSlc Tryd.t9.desc 0 s0 (some s4) none none fun v29 =>
k [v29, s2, s3, s4, s5, s6, s7, s8, s11, s26, s37, s41, s52, s62, s68] H : R))
noncomputable def r15_6 (k : KT R) : KT R := fun fr H => opn 15 fr (fun s0 s2 s3 s4 s5 s6 s7 s8 s11 s26 s37 s41 s52 s62 s68 => 
(k [s0, (.bool false), (.bool false), s4, s5, s6, s7, s8, s11, s26, s37, s41, s52, s62, s68] H : R))
noncomputable def r15_5 (k : KT R) : KT R := fun fr H => opn 15 fr (fun s0 s2 s3 s4 s5 s6 s7 s8 s11 s26 s37 s41 s52 s62 s68 => 
(qEql X 3 s4 (.int .i64 0) fun v17 =>
qG v17 false (fun k => k s4 H) H fun v19 H =>
qG v17 false (fun k => qGtr X 3 v19 (.int .i64 1) fun v => k v H) H fun v20 H =>
qG v17 false (fun k => k v20 H) H fun v21 H =>
qG v21 true (fun k => k s0 H) H fun v22 H =>
qG v21 true (fun k => qIx v22 (.int .i64 0) fun v => k v H) H fun v23 H =>
qG v21 true (fun k => qEql X 5 v23 (.int .u8 48) fun v => k v H) H fun v24 H =>
qG v17 false (fun k => qPick v21 v24 (.bool false) fun v => k v H) H fun v25 H =>
qPick v17 (.bool true) v25 fun v26 =>
k [s0, s2, s3, s4, s5, s6, s7, s8, s11, v26, s37, s41, s52, s62, s68] H : R))
noncomputable def r15_4 (C : CallF) (k : KT R) : KT R := fun fr H => opn 15 fr (fun s0 s2 s3 s4 s5 s6 s7 s8 s11 s26 s37 s41 s52 s62 s68 => 
(qRes (C 41 [s0] H) fun v15 H =>
k [s0, s2, s3, v15, s5, s6, s7, s8, s11, s26, s37, s41, s52, s62, s68] H : R))
noncomputable def r15_3 (C : CallF) (k : KT R) : KT R := fun fr H => opn 15 fr (fun s0 s2 s3 s4 s5 s6 s7 s8 s11 s26 s37 s41 s52 s62 s68 => 
(qRes (C 40 [s0, (.str [45])] H) fun v13 H =>
k [v13, s2, s3, s4, s5, s6, s7, s8, s11, s26, s37, s41, s52, s62, s68] H : R))
noncomputable def r15_2 (k : KT R) : KT R := fun fr H => opn 15 fr (fun s0 s2 s3 s4 s5 s6 s7 s8 s11 s26 s37 s41 s52 s62 s68 => 
(k [s0, (.bool false), (.bool false), s4, s5, s6, s7, s8, s11, s26, s37, s41, s52, s62, s68] H : R))
noncomputable def r15_1 (k : KT R) : KT R := fun fr H => opn 15 fr (fun s0 s2 s3 s4 s5 s6 s7 s8 s11 s26 s37 s41 s52 s62 s68 => 
(qLenS s0 fun v10 =>
qGtr X 3 v10 (.int .i64 40) fun v11 =>
k [s0, s2, s3, s4, s5, s6, s7, s8, v11, s26, s37, s41, s52, s62, s68] H : R))
noncomputable def r15_0 (k : KT R) : KT R := fun fr H => opn 15 fr (fun s0 s2 s3 s4 s5 s6 s7 s8 s11 s26 s37 s41 s52 s62 s68 => 
(k [s0, (.bool false), (.bool false), s4, s5, s6, s7, s8, s11, s26, s37, s41, s52, s62, s68] H : R))
noncomputable def c15 (C : CallF) (l0 : List AV) (H : AH) (k : AV → AH → R) : R := opn 1 l0 (fun x0 => (qFn (fun kr => (r15_0 (r15_1 (qCd (sel 8) (fun _ => (r15_2 kr)) (fun k7 => k7) (r15_3 C (r15_4 C (r15_5 (qCd (sel 9) (fun _ => (r15_6 kr)) (fun k6 => k6) (r15_7 (r15_8 (r15_9 C (r15_10 (qCd (sel 10) (fun k4 => (r15_11 C (r15_12 (qCd (sel 11) (fun _ => (r15_13 kr)) (fun k5 => k5) (r15_14 k4))))) (fun k4 => k4) (r15_15 C (qCd (sel 12) (fun k1 => (r15_16 (r15_17 C (qCd (sel 13) (fun k3 => (r15_18 k3)) (fun k3 => k3) (r15_19 C (r15_20 (qCd (sel 14) (fun _ => (r15_21 kr)) (fun k2 => k2) (r15_22 k1)))))))) (fun k1 => k1) (r15_23 kr))))))))))))))))
(fun fr H => k (.tup [(sel 1 fr), (sel 2 fr)]) H) [x0, Aes.undef, Aes.undef, Aes.undef, Aes.undef, Aes.undef, Aes.undef, Aes.undef, Aes.undef, Aes.undef, Aes.undef, Aes.undef, Aes.undef, Aes.undef, Aes.undef] H : R))
/- refectory/jval.Get -/
noncomputable def r17_7 (k : KT R) : KT R := fun fr H => opn 12 fr (fun s0 s1 s2 s4 s5 s6 s7 s9 s10 s11 s12 s30 => 
(qBld z25 [] fun v37 =>
qSt 4 s4 v37 H fun _ H =>
k [s0, s1, s2, s4, (.bool false), s6, s7, s9, s10, s11, s12, s30] H : R))
noncomputable def r17_6 (k : KT R) : KT R := fun fr H => opn 12 fr (fun s0 s1 s2 s4 s5 s6 s7 s9 s10 s11 s12 s30 => 
(qAdd X 3 s11 (.int .i64 1) fun v36 =>
k [s0, s1, s2, s4, s5, s6, s7, s9, s10, v36, s12, s30] H : R))
noncomputable def r17_5 (k : KT R) : KT R := fun fr H => opn 12 fr (fun s0 s1 s2 s4 s5 s6 s7 s9 s10 s11 s12 s30 => 
(qFa 3 s2 fun v31 =>
qLd v31 H fun v32 =>
qIa 4 v32 s6 fun v34 =>
qLdA 4 v34 H fun v35 =>
qSt 4 s4 v35 H fun _ H =>
k [s0, s1, s2, s4, (.bool true), s6, s7, s9, s10, s11, s12, s30] H : R))
noncomputable def r17_4 (k : KT R) : KT R := fun fr H => opn 12 fr (fun s0 s1 s2 s4 s5 s6 s7 s9 s10 s11 s12 s30 => 
(qFa 0 s2 fun v16 =>
qLd v16 H fun v17 =>
qEql X 3 v17 (.int .i64 8) fun v18 =>
qG v18 true (fun k => k s7 H) H fun v20 H =>
qG v18 true (fun k => k s1 H) H fun v21 H =>
qG v18 true (fun k => qEql X 9 v20 v21 fun v => k v H) H fun v22 H =>
qPick v18 v22 (.bool false) fun v23 =>
qG v23 true (fun k => k s6 H) H fun v25 H =>
qG v23 true (fun k => qFa 3 s2 fun v => k v H) H fun v26 H =>
qG v23 true (fun k => qLd v26 H fun v => k v H) H fun v27 H =>
qG v23 true (fun k => qLenL v27 fun v => k v H) H fun v28 H =>
qG v23 true (fun k => qLss X 3 v25 v28 fun v => k v H) H fun v29 H =>
qPick v23 v29 (.bool false) fun v30 =>
k [s0, s1, s2, s4, s5, s6, s7, s9, s10, s11, s12, v30] H : R))
noncomputable def r17_3 (k : KT R) : KT R := fun fr H => opn 12 fr (fun s0 s1 s2 s4 s5 s6 s7 s9 s10 s11 s12 s30 => 
(qIa 1 s9 s11 fun v14 =>
qLd v14 H fun v15 =>
k [s0, s1, s2, s4, s5, s11, v15, s9, s10, s11, s12, s30] H : R))
noncomputable def r17_2 (k : KT R) : KT R := fun fr H => opn 12 fr (fun s0 s1 s2 s4 s5 s6 s7 s9 s10 s11 s12 s30 => 
(qLss X 3 s11 s10 fun v12 =>
k [s0, s1, s2, s4, s5, s6, s7, s9, s10, s11, v12, s30] H : R))
noncomputable def l17_5 (k1 : KT R) (kr : KT R) : KT R → KT R := fun k2 => (r17_2 (qCd (sel 10) (fun k5 => k5) (fun _ => k1) (qBl (fun k3 => (r17_3 (r17_4 (qCd (sel 11) (fun _ => (r17_5 kr)) (fun k4 => k4) k3)))) (r17_6 k2))))
noncomputable def r17_1 (k : KT R) : KT R := fun fr H => opn 12 fr (fun s0 s1 s2 s4 s5 s6 s7 s9 s10 s11 s12 s30 => 
(qFa 2 s2 fun v8 =>
qLd v8 H fun v9 =>
qLenL v9 fun v10 =>
k [s0, s1, s2, s4, s5, s6, s7, v9, v10, (.int .i64 0), s12, s30] H : R))
noncomputable def r17_0 (k : KT R) : KT R := fun fr H => opn 12 fr (fun s0 s1 s2 s4 s5 s6 s7 s9 s10 s11 s12 s30 => 
(qBox s0 H fun v2 H =>
qNew (.cells z25) .ptr H fun v4 H =>
k [s0, s1, v2, v4, (.bool false), s6, s7, s9, s10, s11, s12, s30] H : R))
noncomputable def c17 (C : CallF) (l0 : List AV) (H : AH) (k : AV → AH → R) : R := opn 2 l0 (fun x0 x1 => (qFn (fun kr => (r17_0 (r17_1 (qBl (fun k1 => (qLoop (l17_5 k1 kr))) (r17_7 kr)))))
(fun fr H => qPtr (sel 3 fr) (qLdA 4 (sel 3 fr) H fun w0 => k (.tup [w0, (sel 4 fr)]) H)) [x0, x1, Aes.undef, Aes.undef, Aes.undef, Aes.undef, Aes.undef, Aes.undef, Aes.undef, Aes.undef, Aes.undef, Aes.undef] H : R))
/- refectory/jval.Check -/
noncomputable def r19_1 (C : CallF) (k : KT R) : KT R := fun fr H => opn 3 fr (fun s0 s1 s2 => 
(qLdA 4 s1 H fun v3 =>
qRes (C 45 [v3, (.int .i64 12)] H) fun v4 H =>
k [s0, s1, v4] H : R))
noncomputable def r19_0 (k : KT R) : KT R := fun fr H => opn 3 fr (fun s0 s1 s2 => 
(qBox s0 H fun v1 H =>
k [s0, v1, (.bool false)] H : R))
noncomputable def c19 (C : CallF) (l0 : List AV) (H : AH) (k : AV → AH → R) : R := opn 1 l0 (fun x0 => (qFn (fun kr => (r19_0 (r19_1 C kr)))
(fun fr H => k (sel 2 fr) H) [x0, Aes.undef, Aes.undef] H : R))
/- refectory/jval.Text -/
noncomputable def r21_5 (C : CallF) (k : KT R) : KT R := fun fr H => opn 5 fr (fun s0 s1 s2 s3 s6 => 
(qRes (C 48 [s3] H) fun v9 H =>
k [s0, s1, v9, s3, s6] H : R))
noncomputable def r21_4 (C : CallF) (k : KT R) : KT R := fun fr H => opn 5 fr (fun s0 s1 s2 s3 s6 => 
(qLdA 4 s1 H fun v7 =>
qRes (C 47 [s3, v7] H) fun v8 H =>
k [s0, s1, s2, s3, s6] H : R))
noncomputable def r21_3 (k : KT R) : KT R := fun fr H => opn 5 fr (fun s0 s1 s2 s3 s6 => 
(qNew (.obj 63 0 z63) .ptr H fun v3 H =>
k [s0, s1, s2, v3, s6] H : R))
noncomputable def r21_2 (k : KT R) : KT R := fun fr H => opn 5 fr (fun s0 s1 s2 s3 s6 => 
(k [s0, s1, (.str []), s3, s6] H : R))
noncomputable def r21_1 (C : CallF) (k : KT R) : KT R := fun fr H => opn 5 fr (fun s0 s1 s2 s3 s6 => 
(qLdA 4 s1 H fun v4 =>
qRes (C 19 [v4] H) fun v5 H =>
qNot v5 fun v6 =>
k [s0, s1, s2, s3, v6] H : R))
noncomputable def r21_0 (k : KT R) : KT R := fun fr H => opn 5 fr (fun s0 s1 s2 s3 s6 => 
(qBox s0 H fun v1 H =>
k [s0, v1, (.str []), s3, s6] H : R))
noncomputable def c21 (C : CallF) (l0 : List AV) (H : AH) (k : AV → AH → R) : R := opn 1 l0 (fun x0 => (qFn (fun kr => (r21_0 (r21_1 C (qCd (sel 4) (fun _ => (r21_2 kr)) (fun k1 => k1) (r21_3 (r21_4 C (r21_5 C kr)))))))
(fun fr H => k (sel 2 fr) H) [x0, Aes.undef, Aes.undef, Aes.undef, Aes.undef] H : R))
/- refectory/jval.Same -/
noncomputable def r23_15 (k : KT R) : KT R := fun fr H => opn 20 fr (fun s0 s1 s2 s3 s4 s5 s6 s7 s8 s38 s40 s41 s42 s43 s53 s56 s57 s58 s59 s70 => 
(k [s0, s1, s2, s3, (.bool true), s5, s6, s7, s8, s38, s40, s41, s42, s43, s53, s56, s57, s58, s59, s70] H : R))
noncomputable def r23_14 (k : KT R) : KT R := fun fr H => opn 20 fr (fun s0 s1 s2 s3 s4 s5 s6 s7 s8 s38 s40 s41 s42 s43 s53 s56 s57 s58 s59 s70 => 
(qAdd X 3 s58 (.int .i64 1) fun v71 =>
k [s0, s1, s2, s3, s4, s5, s6, s7, s8, s38, s40, s41, s42, s43, s53, s56, s57, v71, s59, s70] H : R))
noncomputable def r23_13 (k : KT R) : KT R := fun fr H => opn 20 fr (fun s0 s1 s2 s3 s4 s5 s6 s7 s8 s38 s40 s41 s42 s43 s53 s56 s57 s58 s59 s70 => 
(k [s0, s1, s2, s3, (.bool false), s5, s6, s7, s8, s38, s40, s41, s42, s43, s53, s56, s57, s58, s59, s70] H : R))
noncomputable def r23_12 (C : CallF) (k : KT R) : KT R := fun fr H => opn 20 fr (fun s0 s1 s2 s3 s4 s5 s6 s7 s8 s38 s40 s41 s42 s43 s53 s56 s57 s58 s59 s70 => 
(qLdA 4 s8 H fun v63 =>
qFa 3 s3 fun v64 =>
qLd v64 H fun v65 =>
qIa 4 v65 s7 fun v67 =>
qLdA 4 v67 H fun v68 =>
qRes (C 23 [v63, v68] H) fun v69 H =>
qNot v69 fun v70 =>
k [s0, s1, s2, s3, s4, s5, s6, s7, s8, s38, s40, s41, s42, s43, s53, s56, s57, s58, s59, v70] H : R))
noncomputable def r23_11 (k : KT R) : KT R := fun fr H => opn 20 fr (fun s0 s1 s2 s3 s4 s5 s6 s7 s8 s38 s40 s41 s42 s43 s53 s56 s57 s58 s59 s70 => 
(qIa 4 s56 s58 fun v61 =>
qLdA 4 v61 H fun v62 =>
qNew (.cells z25) .ptr H fun v8 H =>
qSt 4 v8 v62 H fun _ H =>
k [s0, s1, s2, s3, s4, s5, s6, s58, v8, s38, s40, s41, s42, s43, s53, s56, s57, s58, s59, s70] H : R))
noncomputable def r23_10 (k : KT R) : KT R := fun fr H => opn 20 fr (fun s0 s1 s2 s3 s4 s5 s6 s7 s8 s38 s40 s41 s42 s43 s53 s56 s57 s58 s59 s70 => 
(qLss X 3 s58 s57 fun v59 =>
k [s0, s1, s2, s3, s4, s5, s6, s7, s8, s38, s40, s41, s42, s43, s53, s56, s57, s58, v59, s70] H : R))
noncomputable def l23_5 (C : CallF) (k1 : KT R) (kr : KT R) : KT R → KT R := fun k2 => (r23_10 (qCd (sel 18) (fun k5 => k5) (fun _ => k1) (qBl (fun k3 => (r23_11 (r23_12 C (qCd (sel 19) (fun _ => (r23_13 kr)) (fun k4 => k4) k3)))) (r23_14 k2))))
noncomputable def r23_9 (k : KT R) : KT R := fun fr H => opn 20 fr (fun s0 s1 s2 s3 s4 s5 s6 s7 s8 s38 s40 s41 s42 s43 s53 s56 s57 s58 s59 s70 => 
(qFa 3 s2 fun v55 =>
qLd v55 H fun v56 =>
qLenL v56 fun v57 =>
k [s0, s1, s2, s3, s4, s5, s6, s7, s8, s38, s40, s41, s42, s43, s53, v56, v57, (.int .i64 0), s59, s70] H : R))
noncomputable def r23_8 (k : KT R) : KT R := fun fr H => opn 20 fr (fun s0 s1 s2 s3 s4 s5 s6 s7 s8 s38 s40 s41 s42 s43 s53 s56 s57 s58 s59 s70 => 
(qAdd X 3 s42 (.int .i64 1) fun v54 =>
k [s0, s1, s2, s3, s4, s5, s6, s7, s8, s38, s40, s41, v54, s43, s53, s56, s57, s58, s59, s70] H : R))
noncomputable def r23_7 (k : KT R) : KT R := fun fr H => opn 20 fr (fun s0 s1 s2 s3 s4 s5 s6 s7 s8 s38 s40 s41 s42 s43 s53 s56 s57 s58 s59 s70 => 
(k [s0, s1, s2, s3, (.bool false), s5, s6, s7, s8, s38, s40, s41, s42, s43, s53, s56, s57, s58, s59, s70] H : R))
noncomputable def r23_6 (k : KT R) : KT R := fun fr H => opn 20 fr (fun s0 s1 s2 s3 s4 s5 s6 s7 s8 s38 s40 s41 s42 s43 s53 s56 s57 s58 s59 s70 => 
(qFa 2 s3 fun v48 =>
qLd v48 H fun v49 =>
qIa 1 v49 s5 fun v51 =>
qLd v51 H fun v52 =>
qNeq X 9 s6 v52 fun v53 =>
k [s0, s1, s2, s3, s4, s5, s6, s7, s8, s38, s40, s41, s42, s43, v53, s56, s57, s58, s59, s70] H : R))
noncomputable def r23_5 (k : KT R) : KT R := fun fr H => opn 20 fr (fun s0 s1 s2 s3 s4 s5 s6 s7 s8 s38 s40 s41 s42 s43 s53 s56 s57 s58 s59 s70 => 
(qIa 1 s40 s42 fun v45 =>
qLd v45 H fun v46 =>
k [s0, s1, s2, s3, s4, s42, v46, s7, s8, s38, s40, s41, s42, s43, s53, s56, s57, s58, s59, s70] H : R))
noncomputable def r23_4 (k : KT R) : KT R := fun fr H => opn 20 fr (fun s0 s1 s2 s3 s4 s5 s6 s7 s8 s38 s40 s41 s42 s43 s53 s56 s57 s58 s59 s70 => 
(qLss X 3 s42 s41 fun v43 =>
k [s0, s1, s2, s3, s4, s5, s6, s7, s8, s38, s40, s41, s42, v43, s53, s56, s57, s58, s59, s70] H : R))
noncomputable def l23_10 (k6 : KT R) (kr : KT R) : KT R → KT R := fun k7 => (r23_4 (qCd (sel 13) (fun k10 => k10) (fun _ => k6) (qBl (fun k8 => (r23_5 (r23_6 (qCd (sel 14) (fun _ => (r23_7 kr)) (fun k9 => k9) k8)))) (r23_8 k7))))
noncomputable def r23_3 (k : KT R) : KT R := fun fr H => opn 20 fr (fun s0 s1 s2 s3 s4 s5 s6 s7 s8 s38 s40 s41 s42 s43 s53 s56 s57 s58 s59 s70 => 
(qFa 2 s2 fun v39 =>
qLd v39 H fun v40 =>
qLenL v40 fun v41 =>
k [s0, s1, s2, s3, s4, s5, s6, s7, s8, s38, v40, v41, (.int .i64 0), s43, s53, s56, s57, s58, s59, s70] H : R))
noncomputable def r23_2 (k : KT R) : KT R := fun fr H => opn 20 fr (fun s0 s1 s2 s3 s4 s5 s6 s7 s8 s38 s40 s41 s42 s43 s53 s56 s57 s58 s59 s70 => 
(k [s0, s1, s2, s3, (.bool false), s5, s6, s7, s8, s38, s40, s41, s42, s43, s53, s56, s57, s58, s59, s70] H : R))
noncomputable def r23_1 (k : KT R) : KT R := fun fr H => opn 20 fr (fun s0 s1 s2 s3 s4 s5 s6 s7 s8 s38 s40 s41 s42 s43 s53 s56 s57 s58 s59 s70 => 
(qFa 0 s2 fun v9 =>
qLd v9 H fun v10 =>
qFa 0 s3 fun v11 =>
qLd v11 H fun v12 =>
qNeq X 3 v10 v12 fun v13 =>
qG v13 false (fun k => qFa 1 s2 fun v => k v H) H fun v15 H =>
qG v13 false (fun k => qLd v15 H fun v => k v H) H fun v16 H =>
qG v13 false (fun k => qFa 1 s3 fun v => k v H) H fun v17 H =>
qG v13 false (fun k => qLd v17 H fun v => k v H) H fun v18 H =>
qG v13 false (fun k => qNeq X 9 v16 v18 fun v => k v H) H fun v19 H =>
qPick v13 (.bool true) v19 fun v20 =>
qG v20 false (fun k => qFa 2 s2 fun v => k v H) H fun v22 H =>
qG v20 false (fun k => qLd v22 H fun v => k v H) H fun v23 H =>
qG v20 false (fun k => qLenL v23 fun v => k v H) H fun v24 H =>
qG v20 false (fun k => qFa 2 s3 fun v => k v H) H fun v25 H =>
qG v20 false (fun k => qLd v25 H fun v => k v H) H fun v26 H =>
qG v20 false (fun k => qLenL v26 fun v => k v H) H fun v27 H =>
qG v20 false (fun k => qNeq X 3 v24 v27 fun v => k v H) H fun v28 H =>
qPick v20 (.bool true) v28 fun v29 =>
qG v29 false (fun k => qFa 3 s2 fun v => k v H) H fun v31 H =>
qG v29 false (fun k => qLd v31 H fun v => k v H) H fun v32 H =>
qG v29 false (fun k => qLenL v32 fun v => k v H) H fun v33 H =>
qG v29 false (fun k => qFa 3 s3 fun v => k v H) H fun v34 H =>
qG v29 false (fun k => qLd v34 H fun v => k v H) H fun v35 H =>
qG v29 false (fun k => qLenL v35 fun v => k v H) H fun v36 H =>
qG v29 false (fun k => qNeq X 3 v33 v36 fun v => k v H) H fun v37 H =>
qPick v29 (.bool true) v37 fun v38 =>
k [s0, s1, s2, s3, s4, s5, s6, s7, s8, v38, s40, s41, s42, s43, s53, s56, s57, s58, s59, s70] H : R))
noncomputable def r23_0 (k : KT R) : KT R := fun fr H => opn 20 fr (fun s0 s1 s2 s3 s4 s5 s6 s7 s8 s38 s40 s41 s42 s43 s53 s56 s57 s58 s59 s70 => 
(qBox s0 H fun v2 H =>
qBox s1 H fun v3 H =>
k [s0, s1, v2, v3, (.bool false), s5, s6, s7, s8, s38, s40, s41, s42, s43, s53, s56, s57, s58, s59, s70] H : R))
noncomputable def c23 (C : CallF) (l0 : List AV) (H : AH) (k : AV → AH → R) : R := opn 2 l0 (fun x0 x1 => (qFn (fun kr => (r23_0 (r23_1 (qCd (sel 9) (fun _ => (r23_2 kr)) (fun k11 => k11) (r23_3 (qBl (fun k6 => (qLoop (l23_10 k6 kr))) (r23_9 (qBl (fun k1 => (qLoop (l23_5 C k1 kr))) (r23_15 kr)))))))))
(fun fr H => k (sel 4 fr) H) [x0, x1, Aes.undef, Aes.undef, Aes.undef, Aes.undef, Aes.undef, Aes.undef, Aes.undef, Aes.undef, Aes.undef, Aes.undef, Aes.undef, Aes.undef, Aes.undef, Aes.undef, Aes.undef, Aes.undef, Aes.undef, Aes.undef] H : R))
/- refectory/refectorylaw00.Place -/
noncomputable def r26_4 (k : KT R) : KT R := fun fr H => opn 5 fr (fun s0 s1 s4 s5 s10 => 
(k [s0, s1, s5, s5, s10] H : R))
noncomputable def r26_3 (k : KT R) : KT R := fun fr H => opn 5 fr (fun s0 s1 s4 s5 s10 => 
(qAdd X 3 s5 s1 fun v13 =>
k [s0, s1, s4, v13, s10] H : R))
noncomputable def r26_2 (k : KT R) : KT R := fun fr H => opn 5 fr (fun s0 s1 s4 s5 s10 => 
(qLss X 3 s5 (.int .i64 0) fun v10 =>
k [s0, s1, s4, s5, v10] H : R))
noncomputable def r26_1 (k : KT R) : KT R := fun fr H => opn 5 fr (fun s0 s1 s4 s5 s10 => 
(qRem X 3 s0 s1 fun v8 =>
k [s0, s1, s4, v8, s10] H : R))
noncomputable def r26_0 (k : KT R) : KT R := fun fr H => opn 5 fr (fun s0 s1 s4 s5 s10 => 
(k [s0, s1, (.int .i64 0), s5, s10] H : R))
noncomputable def c26 (C : CallF) (l0 : List AV) (H : AH) (k : AV → AH → R) : R := opn 2 l0 (fun x0 x1 => (qFn (fun kr => (r26_0 (r26_1 (r26_2 (qCd (sel 4) (fun k1 => (r26_3 k1)) (fun k1 => k1) (r26_4 kr))))))
(fun fr H => k (sel 2 fr) H) [x0, x1, Aes.undef, Aes.undef, Aes.undef] H : R))
/- refectory/refectorylaw00.Digits -/
noncomputable def r27_1 (C : CallF) (k : KT R) : KT R := fun fr H => opn 2 fr (fun s0 s2 => 
(qRes (C 50 [s0] H) fun v4 H =>
k [s0, v4] H : R))
noncomputable def r27_0 (k : KT R) : KT R := fun fr H => opn 2 fr (fun s0 s2 => 
(k [s0, (.str [])] H : R))
noncomputable def c27 (C : CallF) (l0 : List AV) (H : AH) (k : AV → AH → R) : R := opn 1 l0 (fun x0 => (qFn (fun kr => (r27_0 (r27_1 C kr)))
(fun fr H => k (sel 1 fr) H) [x0, Aes.undef] H : R))
/- refectory/refectorylaw01.awake -/
noncomputable def r28_2 (C : CallF) (k : KT R) : KT R := fun fr H => opn 3 fr (fun s0 s1 s2 => 
(qRes (C 29 [(.str [97,10])] H) fun v7 H =>
qEql X 9 v7 (.str [34,97,92,110,34]) fun v8 =>
qG v8 true (fun k => k s1 H) H fun v10 H =>
qG v8 true (fun k => qEql X 9 v10 (.str [65]) fun v => k v H) H fun v11 H =>
qPick v8 v11 (.bool false) fun v12 =>
qG v12 true (fun k => k s2 H) H fun v14 H =>
qPick v12 v14 (.bool false) fun v15 =>
qG v15 true (fun k => qRes (C 33 [(.str [95,97,49])] H) k) H fun v17 H =>
qPick v15 v17 (.bool false) fun v18 =>
qG v18 true (fun k => qRes (C 33 [(.str [49,97])] H) k) H fun v20 H =>
qG v18 true (fun k => qNot v20 fun v => k v H) H fun v21 H =>
qPick v18 v21 (.bool false) fun v22 =>
k [v22, s1, s2] H : R))
noncomputable def r28_1 (C : CallF) (k : KT R) : KT R := fun fr H => opn 3 fr (fun s0 s1 s2 => 
(qRes (C 31 [(.str [34,92,117,48,48,52,49,34])] H) fun v4 H =>
qExt v4 0 fun v5 =>
qExt v4 1 fun v6 =>
k [s0, v5, v6] H : R))
noncomputable def r28_0 (k : KT R) : KT R := fun fr H => opn 3 fr (fun s0 s1 s2 => 
(k [(.bool false), s1, s2] H : R))
noncomputable def c28 (C : CallF) (l0 : List AV) (H : AH) (k : AV → AH → R) : R := opn 0 l0 ((qFn (fun kr => (r28_0 (r28_1 C (r28_2 C kr))))
(fun fr H => k (sel 0 fr) H) [Aes.undef, Aes.undef, Aes.undef] H : R))
/- refectory/runes.Quote -/
noncomputable def r29_18 (C : CallF) (k : KT R) : KT R := fun fr H => opn 11 fr (fun s0 s2 s3 s5 s6 s9 s12 s13 s14 s20 s31 => 
(qRes (C 48 [s3] H) fun v48 H =>
k [s0, v48, s3, s5, s6, s9, s12, s13, s14, s20, s31] H : R))
noncomputable def r29_17 (C : CallF) (k : KT R) : KT R := fun fr H => opn 11 fr (fun s0 s2 s3 s5 s6 s9 s12 s13 s14 s20 s31 => 
(qRes (C 51 [s3, (.int .u8 34)] H) fun v47 H =>
k [s0, s2, s3, s5, s6, s9, s12, s13, s14, s20, s31] H : R))
noncomputable def r29_12 (C : CallF) (k : KT R) : KT R := fun fr H => opn 11 fr (fun s0 s2 s3 s5 s6 s9 s12 s13 s14 s20 s31 => 
(qIx (.str [34,92,47,98,102,110,114,116]) s6 fun v29 =>
qRes (C 51 [s3, v29] H) fun v30 H =>
k [s0, s2, s3, s5, s6, s9, s12, s13, s14, s20, s31] H : R))
noncomputable def r29_11 (C : CallF) (k : KT R) : KT R := fun fr H => opn 11 fr (fun s0 s2 s3 s5 s6 s9 s12 s13 s14 s20 s31 => 
(qRes (C 51 [s3, (.int .u8 92)] H) fun v27 H =>
k [s0, s2, s3, s5, s6, s9, s12, s13, s14, s20, s31] H : R))
noncomputable def r29_16 (C : CallF) (k : KT R) : KT R := fun fr H => opn 11 fr (fun s0 s2 s3 s5 s6 s9 s12 s13 s14 s20 s31 => 
(qO (binop X .and 21 s5 (.int .i32 15)) fun v44 =>
qIx (.str [48,49,50,51,52,53,54,55,56,57,97,98,99,100,101,102]) v44 fun v45 =>
qRes (C 51 [s3, v45] H) fun v46 H =>
k [s0, s2, s3, s5, s6, s9, s12, s13, s14, s20, s31] H : R))
noncomputable def r29_15 (C : CallF) (k : KT R) : KT R := fun fr H => opn 11 fr (fun s0 s2 s3 s5 s6 s9 s12 s13 s14 s20 s31 => 
(qO (binop X .shr 21 s5 (.int .u64 4)) fun v40 =>
qIx (.str [48,49,50,51,52,53,54,55,56,57,97,98,99,100,101,102]) v40 fun v41 =>
qRes (C 51 [s3, v41] H) fun v42 H =>
k [s0, s2, s3, s5, s6, s9, s12, s13, s14, s20, s31] H : R))
noncomputable def r29_14 (C : CallF) (k : KT R) : KT R := fun fr H => opn 11 fr (fun s0 s2 s3 s5 s6 s9 s12 s13 s14 s20 s31 => 
(qRes (C 53 [s3, (.str [92,117,48,48])] H) fun v38 H =>
k [s0, s2, s3, s5, s6, s9, s12, s13, s14, s20, s31] H : R))
noncomputable def r29_9 (C : CallF) (k : KT R) : KT R := fun fr H => opn 11 fr (fun s0 s2 s3 s5 s6 s9 s12 s13 s14 s20 s31 => 
(qRes (C 54 [s3, s5] H) fun v19 H =>
k [s0, s2, s3, s5, s6, s9, s12, s13, s14, s20, s31] H : R))
noncomputable def r29_13 (k : KT R) : KT R := fun fr H => opn 11 fr (fun s0 s2 s3 s5 s6 s9 s12 s13 s14 s20 s31 => 
(qLss X 21 s5 (.int .i32 32) fun v33 =>
qG v33 false (fun k => k s5 H) H fun v35 H =>
qG v33 false (fun k => qEql X 21 v35 (.int .i32 127) fun v => k v H) H fun v36 H =>
qPick v33 (.bool true) v36 fun v37 =>
k [s0, s2, s3, s5, s6, s9, s12, s13, s14, s20, v37] H : R))
noncomputable def r29_10 (k : KT R) : KT R := fun fr H => opn 11 fr (fun s0 s2 s3 s5 s6 s9 s12 s13 s14 s20 s31 => 
(qNeq X 21 s5 (.int .i32 47) fun v22 =>
qG v22 true (fun k => k s6 H) H fun v24 H =>
qG v22 true (fun k => qGeq X 3 v24 (.int .i64 0) fun v => k v H) H fun v25 H =>
qPick v22 v25 (.bool false) fun v26 =>
k [s0, s2, s3, s5, s6, s9, s12, s13, s14, v26, s31] H : R))
noncomputable def r29_8 (C : CallF) (k : KT R) : KT R := fun fr H => opn 11 fr (fun s0 s2 s3 s5 s6 s9 s12 s13 s14 s20 s31 => 
(qRes (C 52 [(.str [34,92,47,8,12,10,13,9]), s5] H) fun v17 H =>
k [s0, s2, s3, s5, v17, s9, s12, s13, s14, s20, s31] H : R))
noncomputable def r29_7 (k : KT R) : KT R := fun fr H => opn 11 fr (fun s0 s2 s3 s5 s6 s9 s12 s13 s14 s20 s31 => 
(qExt s13 2 fun v15 =>
k [s0, s2, s3, v15, s6, s9, s12, s13, s14, s20, s31] H : R))
noncomputable def r29_6 (k : KT R) : KT R := fun fr H => opn 11 fr (fun s0 s2 s3 s5 s6 s9 s12 s13 s14 s20 s31 => 
(qNext s12 H fun v13 H =>
qExt v13 0 fun v14 =>
k [s0, s2, s3, s5, s6, s9, s12, v13, v14, s20, s31] H : R))
noncomputable def l29_7 (C : CallF) (k1 : KT R) : KT R → KT R := fun k2 => (r29_6 (qCd (sel 8) (fun k7 => k7) (fun _ => k1) (qBl (fun k3 => (r29_7 (r29_8 C (qBl (fun k4 => (r29_10 (qCd (sel 9) (fun k5 => (r29_11 C (r29_12 C k5))) (fun k5 => (r29_13 (qCd (sel 10) (fun k6 => (r29_14 C (r29_15 C (r29_16 C k6)))) (fun k6 => (r29_9 C k6)) k5))) k4))) k3)))) k2)))
noncomputable def r29_5 (k : KT R) : KT R := fun fr H => opn 11 fr (fun s0 s2 s3 s5 s6 s9 s12 s13 s14 s20 s31 => 
(qRange s0 H fun v12 H =>
k [s0, s2, s3, s5, s6, s9, v12, s13, s14, s20, s31] H : R))
noncomputable def r29_4 (C : CallF) (k : KT R) : KT R := fun fr H => opn 11 fr (fun s0 s2 s3 s5 s6 s9 s12 s13 s14 s20 s31 => 
(qRes (C 51 [s3, (.int .u8 34)] H) fun v10 H =>
k [s0, s2, s3, s5, s6, s9, s12, s13, s14, s20, s31] H : R))
noncomputable def r29_3 (k : KT R) : KT R := fun fr H => opn 11 fr (fun s0 s2 s3 s5 s6 s9 s12 s13 s14 s20 s31 => 
(qNew (.obj 63 0 z63) .ptr H fun v3 H =>
k [s0, s2, v3, s5, s6, s9, s12, s13, s14, s20, s31] H : R))
noncomputable def r29_2 (k : KT R) : KT R := fun fr H => opn 11 fr (fun s0 s2 s3 s5 s6 s9 s12 s13 s14 s20 s31 => 
(k [s0, (.str []), s3, s5, s6, s9, s12, s13, s14, s20, s31] H : R))
noncomputable def r29_1 (C : CallF) (k : KT R) : KT R := fun fr H => opn 11 fr (fun s0 s2 s3 s5 s6 s9 s12 s13 s14 s20 s31 => 
(qRes (C 30 [s0] H) fun v8 H =>
qNot v8 fun v9 =>
k [s0, s2, s3, s5, s6, v9, s12, s13, s14, s20, s31] H : R))
noncomputable def r29_0 (k : KT R) : KT R := fun fr H => opn 11 fr (fun s0 s2 s3 s5 s6 s9 s12 s13 s14 s20 s31 => 
(k [s0, (.str []), s3, s5, s6, s9, s12, s13, s14, s20, s31] H : R))
noncomputable def c29 (C : CallF) (l0 : List AV) (H : AH) (k : AV → AH → R) : R := opn 1 l0 (fun x0 => (qFn (fun kr => (r29_0 (r29_1 C (qCd (sel 5) (fun _ => (r29_2 kr)) (fun k8 => k8) (r29_3 (r29_4 C (r29_5 (qBl (fun k1 => (qLoop (l29_7 C k1))) (r29_17 C (r29_18 C kr))))))))))
(fun fr H => k (sel 1 fr) H) [x0, Aes.undef, Aes.undef, Aes.undef, Aes.undef, Aes.undef, Aes.undef, Aes.undef, Aes.undef, Aes.undef, Aes.undef] H : R))
/- refectory/runes.Valid -/
noncomputable def r30_1 (C : CallF) (k : KT R) : KT R := fun fr H => opn 2 fr (fun s0 s2 => 
(qRes (C 55 [s0] H) fun v4 H =>
k [s0, v4] H : R))
noncomputable def r30_0 (k : KT R) : KT R := fun fr H => opn 2 fr (fun s0 s2 => 
(k [s0, (.bool false)] H : R))
noncomputable def c30 (C : CallF) (l0 : List AV) (H : AH) (k : AV → AH → R) : R := opn 1 l0 (fun x0 => (qFn (fun kr => (r30_0 (r30_1 C kr)))
(fun fr H => k (sel 1 fr) H) [x0, Aes.undef] H : R))
/- refectory/runes.Unquote -/
noncomputable def r31_27 (C : CallF) (k : KT R) : KT R := fun fr H => opn 21 fr (fun s0 s2 s3 s4 s5 s6 s7 s8 s9 s10 s31 s38 s39 s40 s49 s55 s59 s66 s71 s77 s92 => 
(qRes (C 48 [s4] H) fun v99 H =>
k [s0, v99, (.bool true), s4, s5, s6, s7, s8, s9, s10, s31, s38, s39, s40, s49, s55, s59, s66, s71, s77, s92] H : R))
noncomputable def r31_16 (k : KT R) : KT R := fun fr H => opn 21 fr (fun s0 s2 s3 s4 s5 s6 s7 s8 s9 s10 s31 s38 s39 s40 s49 s55 s59 s66 s71 s77 s92 => 
(k [s0, (.str []), (.bool false), s4, s5, s6, s7, s8, s9, s10, s31, s38, s39, s40, s49, s55, s59, s66, s71, s77, s92] H : R))
noncomputable def r31_18 (C : CallF) (k : KT R) : KT R := fun fr H => opn 21 fr (fun s0 s2 s3 s4 s5 s6 s7 s8 s9 s10 s31 s38 s39 s40 s49 s55 s59 s66 s71 s77 s92 => 
(qRes (C 54 [s4, s7] H) fun v70 H =>
k [s0, s2, s3, s4, s5, s6, s7, s8, s9, s10, s31, s38, s39, s40, s49, s55, s59, s66, s71, s77, s92] H : R))
noncomputable def r31_20 (k : KT R) : KT R := fun fr H => opn 21 fr (fun s0 s2 s3 s4 s5 s6 s7 s8 s9 s10 s31 s38 s39 s40 s49 s55 s59 s66 s71 s77 s92 => 
(k [s0, (.str []), (.bool false), s4, s5, s6, s7, s8, s9, s10, s31, s38, s39, s40, s49, s55, s59, s66, s71, s77, s92] H : R))
noncomputable def r31_26 (k : KT R) : KT R := fun fr H => opn 21 fr (fun s0 s2 s3 s4 s5 s6 s7 s8 s9 s10 s31 s38 s39 s40 s49 s55 s59 s66 s71 s77 s92 => 
(qAdd X 3 s6 (.int .i64 2) fun v96 =>
qAdd X 3 v96 s9 fun v98 =>
k [s0, s2, s3, s4, v98, s6, s7, s8, s9, s10, s31, s38, s39, s40, s49, s55, s59, s66, s71, s77, s92] H : R))
noncomputable def r31_25 (C : CallF) (k : KT R) : KT R := fun fr H => opn 21 fr (fun s0 s2 s3 s4 s5 s6 s7 s8 s9 s10 s31 s38 s39 s40 s49 s55 s59 s66 s71 s77 s92 => 
(qRes (C 54 [s4, s8] H) fun v94 H =>
k [s0, s2, s3, s4, s5, s6, s7, s8, s9, s10, s31, s38, s39, s40, s49, s55, s59, s66, s71, s77, s92] H : R))
noncomputable def r31_24 (k : KT R) : KT R := fun fr H => opn 21 fr (fun s0 s2 s3 s4 s5 s6 s7 s8 s9 s10 s31 s38 s39 s40 s49 s55 s59 s66 s71 s77 s92 => 
(k [s0, (.str []), (.bool false), s4, s5, s6, s7, s8, s9, s10, s31, s38, s39, s40, s49, s55, s59, s66, s71, s77, s92] H : R))
noncomputable def r31_23 (k : KT R) : KT R := fun fr H => opn 21 fr (fun s0 s2 s3 s4 s5 s6 s7 s8 s9 s10 s31 s38 s39 s40 s49 s55 s59 s66 s71 s77 s92 => 
(qLss X 21 s8 (.int .i32 0) fun v92 =>
k [s0, s2, s3, s4, s5, s6, s7, s8, s9, s10, s31, s38, s39, s40, s49, s55, s59, s66, s71, s77, v92] H : R))
noncomputable def r31_22 (C : CallF) (k : KT R) : KT R := fun fr H => opn 21 fr (fun s0 s2 s3 s4 s5 s6 s7 s8 s9 s10 s31 s38 s39 s40 s49 s55 s59 s66 s71 s77 s92 => 
(qAdd X 3 s6 (.int .i64 2) fun v86 =>
qSlc Tryd.t9.desc 0 s0 (some v86) none none fun v87 =>
qRes (C 56 [v87] H) fun v88 H =>
qExt v88 0 fun v89 =>
qExt v88 1 fun v90 =>
k [s0, s2, s3, s4, s5, s6, s7, v89, v90, s10, s31, s38, s39, s40, s49, s55, s59, s66, s71, s77, s92] H : R))
noncomputable def r31_13 (k : KT R) : KT R := fun fr H => opn 21 fr (fun s0 s2 s3 s4 s5 s6 s7 s8 s9 s10 s31 s38 s39 s40 s49 s55 s59 s66 s71 s77 s92 => 
(qAdd X 3 s6 (.int .i64 2) fun v54 =>
k [s0, s2, s3, s4, v54, s6, s7, s8, s9, s10, s31, s38, s39, s40, s49, s55, s59, s66, s71, s77, s92] H : R))
noncomputable def r31_12 (C : CallF) (k : KT R) : KT R := fun fr H => opn 21 fr (fun s0 s2 s3 s4 s5 s6 s7 s8 s9 s10 s31 s38 s39 s40 s49 s55 s59 s66 s71 s77 s92 => 
(qIx (.str [34,92,47,8,12,10,13,9]) s10 fun v51 =>
qRes (C 51 [s4, v51] H) fun v52 H =>
k [s0, s2, s3, s4, s5, s6, s7, s8, s9, s10, s31, s38, s39, s40, s49, s55, s59, s66, s71, s77, s92] H : R))
noncomputable def r31_11 (k : KT R) : KT R := fun fr H => opn 21 fr (fun s0 s2 s3 s4 s5 s6 s7 s8 s9 s10 s31 s38 s39 s40 s49 s55 s59 s66 s71 s77 s92 => 
(k [s0, (.str []), (.bool false), s4, s5, s6, s7, s8, s9, s10, s31, s38, s39, s40, s49, s55, s59, s66, s71, s77, s92] H : R))
noncomputable def r31_10 (k : KT R) : KT R := fun fr H => opn 21 fr (fun s0 s2 s3 s4 s5 s6 s7 s8 s9 s10 s31 s38 s39 s40 s49 s55 s59 s66 s71 s77 s92 => 
(qLss X 3 s10 (.int .i64 0) fun v49 =>
k [s0, s2, s3, s4, s5, s6, s7, s8, s9, s10, s31, s38, s39, s40, v49, s55, s59, s66, s71, s77, s92] H : R))
noncomputable def r31_9 (C : CallF) (k : KT R) : KT R := fun fr H => opn 21 fr (fun s0 s2 s3 s4 s5 s6 s7 s8 s9 s10 s31 s38 s39 s40 s49 s55 s59 s66 s71 s77 s92 => 
(qAdd X 3 s6 (.int .i64 1) fun v45 =>
qIx s0 v45 fun v46 =>
qRes (C 43 [(.str [34,92,47,98,102,110,114,116]), v46] H) fun v47 H =>
k [s0, s2, s3, s4, s5, s6, s7, s8, s9, v47, s31, s38, s39, s40, s49, s55, s59, s66, s71, s77, s92] H : R))
noncomputable def r31_21 (k : KT R) : KT R := fun fr H => opn 21 fr (fun s0 s2 s3 s4 s5 s6 s7 s8 s9 s10 s31 s38 s39 s40 s49 s55 s59 s66 s71 s77 s92 => 
(qAdd X 3 s6 (.int .i64 1) fun v80 =>
qIx s0 v80 fun v81 =>
qEql X 5 v81 (.int .u8 117) fun v82 =>
k [s0, s2, s3, s4, s5, s6, s7, s8, s9, s10, s31, s38, s39, s40, s49, s55, s59, s66, s71, v82, s92] H : R))
noncomputable def r31_19 (k : KT R) : KT R := fun fr H => opn 21 fr (fun s0 s2 s3 s4 s5 s6 s7 s8 s9 s10 s31 s38 s39 s40 s49 s55 s59 s66 s71 s77 s92 => 
(qAdd X 3 s6 (.int .i64 1) fun v73 =>
qLenS s0 fun v75 =>
qGeq X 3 v73 v75 fun v76 =>
k [s0, s2, s3, s4, s5, s6, s7, s8, s9, s10, s31, s38, s39, s40, s49, s55, s59, s66, v76, s77, s92] H : R))
noncomputable def r31_17 (k : KT R) : KT R := fun fr H => opn 21 fr (fun s0 s2 s3 s4 s5 s6 s7 s8 s9 s10 s31 s38 s39 s40 s49 s55 s59 s66 s71 s77 s92 => 
(qNeq X 21 s7 (.int .i32 92) fun v68 =>
k [s0, s2, s3, s4, s5, s6, s7, s8, s9, s10, s31, s38, s39, s40, s49, s55, s59, v68, s71, s77, s92] H : R))
noncomputable def r31_15 (k : KT R) : KT R := fun fr H => opn 21 fr (fun s0 s2 s3 s4 s5 s6 s7 s8 s9 s10 s31 s38 s39 s40 s49 s55 s59 s66 s71 s77 s92 => 
(qLss X 21 s7 (.int .i32 32) fun v61 =>
qG v61 false (fun k => k s7 H) H fun v63 H =>
qG v61 false (fun k => qEql X 21 v63 (.int .i32 34) fun v => k v H) H fun v64 H =>
qPick v61 (.bool true) v64 fun v65 =>
k [s0, s2, s3, s4, s5, s6, s7, s8, s9, s10, s31, s38, s39, s40, s49, s55, v65, s66, s71, s77, s92] H : R))
noncomputable def r31_14 (k : KT R) : KT R := fun fr H => opn 21 fr (fun s0 s2 s3 s4 s5 s6 s7 s8 s9 s10 s31 s38 s39 s40 s49 s55 s59 s66 s71 s77 s92 => 
(qLss X 3 s6 s5 fun v58 =>
k [s0, s2, s3, s4, s5, s6, s7, s8, s9, s10, s31, s38, s39, s40, s49, v58, s59, s66, s71, s77, s92] H : R))
noncomputable def r31_8 (k : KT R) : KT R := fun fr H => opn 21 fr (fun s0 s2 s3 s4 s5 s6 s7 s8 s9 s10 s31 s38 s39 s40 s49 s55 s59 s66 s71 s77 s92 => 
(qExt s39 1 fun v41 =>
qExt s39 2 fun v42 =>
k [s0, s2, s3, s4, s5, v41, v42, s8, s9, s10, s31, s38, s39, s40, s49, s55, s59, s66, s71, s77, s92] H : R))
noncomputable def r31_7 (k : KT R) : KT R := fun fr H => opn 21 fr (fun s0 s2 s3 s4 s5 s6 s7 s8 s9 s10 s31 s38 s39 s40 s49 s55 s59 s66 s71 s77 s92 => 
(qNext s38 H fun v39 H =>
qExt v39 0 fun v40 =>
k [s0, s2, s3, s4, s5, s6, s7, s8, s9, s10, s31, s38, v39, v40, s49, s55, s59, s66, s71, s77, s92] H : R))
noncomputable def l31_12 (C : CallF) (k1 : KT R) (kr : KT R) : KT R → KT R := fun k2 => (r31_7 (qCd (sel 13) (fun k12 => k12) (fun _ => k1) (qBl (fun k3 => (r31_8 (qBl (fun k4 => (r31_14 (qCd (sel 15) (fun k5 => k5) (fun k5 => (r31_15 (qCd (sel 16) (fun _ => (r31_16 kr)) (fun k6 => (r31_17 (qCd (sel 17) (fun k7 => (r31_18 C k7)) (fun k7 => (r31_19 (qCd (sel 18) (fun _ => (r31_20 kr)) (fun k8 => (r31_21 (qCd (sel 19) (fun k9 => (r31_22 C (r31_23 (qCd (sel 20) (fun _ => (r31_24 kr)) (fun k10 => k10) (r31_25 C (r31_26 k9)))))) (fun k9 => (r31_9 C (r31_10 (qCd (sel 14) (fun _ => (r31_11 kr)) (fun k11 => k11) (r31_12 C (r31_13 k9)))))) k8))) k7))) k6))) k5))) k4))) k3))) k2)))
noncomputable def r31_6 (k : KT R) : KT R := fun fr H => opn 21 fr (fun s0 s2 s3 s4 s5 s6 s7 s8 s9 s10 s31 s38 s39 s40 s49 s55 s59 s66 s71 s77 s92 => 
(qRange s0 H fun v38 H =>
k [s0, s2, s3, s4, s5, s6, s7, s8, s9, s10, s31, v38, s39, s40, s49, s55, s59, s66, s71, s77, s92] H : R))
noncomputable def r31_5 (k : KT R) : KT R := fun fr H => opn 21 fr (fun s0 s2 s3 s4 s5 s6 s7 s8 s9 s10 s31 s38 s39 s40 s49 s55 s59 s66 s71 s77 s92 => 
(k [s0, s2, s3, s4, (.int .i64 0), s6, s7, s8, s9, s10, s31, s38, s39, s40, s49, s55, s59, s66, s71, s77, s92] H : R))
noncomputable def r31_4 (k : KT R) : KT R := fun fr H => opn 21 fr (fun s0 s2 s3 s4 s5 s6 s7 s8 s9 s10 s31 s38 s39 s40 s49 s55 s59 s66 s71 s77 s92 => 
(qNew (.obj 63 0 z63) .ptr H fun v4 H =>
k [s0, s2, s3, v4, s5, s6, s7, s8, s9, s10, s31, s38, s39, s40, s49, s55, s59, s66, s71, s77, s92] H : R))
noncomputable def r31_3 (k : KT R) : KT R := fun fr H => opn 21 fr (fun s0 s2 s3 s4 s5 s6 s7 s8 s9 s10 s31 s38 s39 s40 s49 s55 s59 s66 s71 s77 s92 => 
(qLenS s0 fun v34 =>
qSub X 3 v34 (.int .i64 1) fun v35 =>
qSlc Tryd.t9.desc 0 s0 (some (.int .i64 1)) (some v35) none fun v36 =>
k [v36, s2, s3, s4, s5, s6, s7, s8, s9, s10, s31, s38, s39, s40, s49, s55, s59, s66, s71, s77, s92] H : R))
noncomputable def r31_2 (k : KT R) : KT R := fun fr H => opn 21 fr (fun s0 s2 s3 s4 s5 s6 s7 s8 s9 s10 s31 s38 s39 s40 s49 s55 s59 s66 s71 s77 s92 => 
(k [s0, (.str []), (.bool false), s4, s5, s6, s7, s8, s9, s10, s31, s38, s39, s40, s49, s55, s59, s66, s71, s77, s92] H : R))
noncomputable def r31_1 (C : CallF) (k : KT R) : KT R := fun fr H => opn 21 fr (fun s0 s2 s3 s4 s5 s6 s7 s8 s9 s10 s31 s38 s39 s40 s49 s55 s59 s66 s71 s77 s92 => 
(qLenS s0 fun v12 =>
qLss X 3 v12 (.int .i64 2) fun v13 =>
qG v13 false (fun k => k s0 H) H fun v15 H =>
qG v13 false (fun k => qIx v15 (.int .i64 0) fun v => k v H) H fun v16 H =>
qG v13 false (fun k => qNeq X 5 v16 (.int .u8 34) fun v => k v H) H fun v17 H =>
qPick v13 (.bool true) v17 fun v18 =>
qG v18 false (fun k => k s0 H) H fun v20 H =>
qG v18 false (fun k => k s0 H) H fun v21 H =>
qG v18 false (fun k => qLenS v21 fun v => k v H) H fun v22 H =>
qG v18 false (fun k => qSub X 3 v22 (.int .i64 1) fun v => k v H) H fun v23 H =>
qG v18 false (fun k => qIx v20 v23 fun v => k v H) H fun v24 H =>
qG v18 false (fun k => qNeq X 5 v24 (.int .u8 34) fun v => k v H) H fun v25 H =>
qPick v18 (.bool true) v25 fun v26 =>
qG v26 false (fun k => k s0 H) H fun v28 H =>
qG v26 false (fun k => qRes (C 30 [v28] H) k) H fun v29 H =>
qG v26 false (fun k => qNot v29 fun v => k v H) H fun v30 H =>
qPick v26 (.bool true) v30 fun v31 =>
k [s0, s2, s3, s4, s5, s6, s7, s8, s9, s10, v31, s38, s39, s40, s49, s55, s59, s66, s71, s77, s92] H : R))
noncomputable def r31_0 (k : KT R) : KT R := fun fr H => opn 21 fr (fun s0 s2 s3 s4 s5 s6 s7 s8 s9 s10 s31 s38 s39 s40 s49 s55 s59 s66 s71 s77 s92 => 
(k [s0, (.str []), (.bool false), s4, s5, s6, s7, s8, s9, s10, s31, s38, s39, s40, s49, s55, s59, s66, s71, s77, s92] H : R))
noncomputable def c31 (C : CallF) (l0 : List AV) (H : AH) (k : AV → AH → R) : R := opn 1 l0 (fun x0 => (qFn (fun kr => (r31_0 (r31_1 C (qCd (sel 10) (fun _ => (r31_2 kr)) (fun k13 => k13) (r31_3 (r31_4 (r31_5 (r31_6 (qBl (fun k1 => (qLoop (l31_12 C k1 kr))) (r31_27 C kr))))))))))
(fun fr H => k (.tup [(sel 1 fr), (sel 2 fr)]) H) [x0, Aes.undef, Aes.undef, Aes.undef, Aes.undef, Aes.undef, Aes.undef, Aes.undef, Aes.undef, Aes.undef, Aes.undef, Aes.undef, Aes.undef, Aes.undef, Aes.undef, Aes.undef, Aes.undef, Aes.undef, Aes.undef, Aes.undef, Aes.undef] H : R))
/- refectory/refectorylaw01.RunesPoints$1 -/
noncomputable def r32_1 (k : KT R) : KT R := fun fr H => opn 3 fr (fun s0 s1 s3 => 
(qLd s1 H fun v4 =>
qO (binop X .shr 3 s0 (.int .u64 12)) fun v6 =>
qO (binop X .and 3 v6 (.int .i64 15)) fun v7 =>
qO (binop X .shr 3 s0 (.int .u64 12)) fun v9 =>
qO (binop X .and 3 v9 (.int .i64 15)) fun v10 =>
qAdd X 3 v10 (.int .i64 1) fun v11 =>
qSlc Tryd.t9.desc 0 v4 (some v7) (some v11) none fun v12 =>
qAdd X 9 (.str [92,117]) v12 fun v13 =>
qLd s1 H fun v14 =>
qO (binop X .shr 3 s0 (.int .u64 8)) fun v16 =>
qO (binop X .and 3 v16 (.int .i64 15)) fun v17 =>
qO (binop X .shr 3 s0 (.int .u64 8)) fun v19 =>
qO (binop X .and 3 v19 (.int .i64 15)) fun v20 =>
qAdd X 3 v20 (.int .i64 1) fun v21 =>
qSlc Tryd.t9.desc 0 v14 (some v17) (some v21) none fun v22 =>
qAdd X 9 v13 v22 fun v23 =>
qLd s1 H fun v24 =>
qO (binop X .shr 3 s0 (.int .u64 4)) fun v26 =>
qO (binop X .and 3 v26 (.int .i64 15)) fun v27 =>
qO (binop X .shr 3 s0 (.int .u64 4)) fun v29 =>
qO (binop X .and 3 v29 (.int .i64 15)) fun v30 =>
qAdd X 3 v30 (.int .i64 1) fun v31 =>
qSlc Tryd.t9.desc 0 v24 (some v27) (some v31) none fun v32 =>
qAdd X 9 v23 v32 fun v33 =>
qLd s1 H fun v34 =>
qO (binop X .and 3 s0 (.int .i64 15)) fun v36 =>
qO (binop X .and 3 s0 (.int .i64 15)) fun v38 =>
qAdd X 3 v38 (.int .i64 1) fun v39 =>
qSlc Tryd.t9.desc 0 v34 (some v36) (some v39) none fun v40 =>
qAdd X 9 v33 v40 fun v41 =>
k [s0, s1, v41] H : R))
noncomputable def r32_0 (k : KT R) : KT R := fun fr H => opn 3 fr (fun s0 s1 s3 => 
(k [s0, s1, (.str [])] H : R))
noncomputable def c32 (C : CallF) (l0 : List AV) (H : AH) (k : AV → AH → R) : R := opn 2 l0 (fun x0 x1 => (qFn (fun kr => (r32_0 (r32_1 kr)))
(fun fr H => k (sel 2 fr) H) [x0, x1, Aes.undef] H : R))
/- refectory/runes.Name -/
noncomputable def r33_7 (k : KT R) : KT R := fun fr H => opn 9 fr (fun s0 s2 s3 s4 s5 s7 s8 s9 s43 => 
(qLenS s0 fun v45 =>
qGeq X 3 v45 (.int .i64 1) fun v46 =>
qG v46 true (fun k => k s0 H) H fun v48 H =>
qG v46 true (fun k => qLenS v48 fun v => k v H) H fun v49 H =>
qG v46 true (fun k => qLeq X 3 v49 (.int .i64 40) fun v => k v H) H fun v50 H =>
qPick v46 v50 (.bool false) fun v51 =>
k [s0, v51, s3, s4, s5, s7, s8, s9, s43] H : R))
noncomputable def r33_6 (k : KT R) : KT R := fun fr H => opn 9 fr (fun s0 s2 s3 s4 s5 s7 s8 s9 s43 => 
(k [s0, (.bool false), s3, s4, s5, s7, s8, s9, s43] H : R))
noncomputable def r33_5 (k : KT R) : KT R := fun fr H => opn 9 fr (fun s0 s2 s3 s4 s5 s7 s8 s9 s43 => 
(qNot s5 fun v31 =>
qG v31 true (fun k => k s3 H) H fun v33 H =>
qG v31 true (fun k => qEql X 3 v33 (.int .i64 0) fun v => k v H) H fun v34 H =>
qG v31 true (fun k => k v34 H) H fun v35 H =>
qG v35 false (fun k => k s4 H) H fun v36 H =>
qG v35 false (fun k => qLss X 21 v36 (.int .i32 48) fun v => k v H) H fun v37 H =>
qG v31 true (fun k => qPick v35 (.bool true) v37 fun v => k v H) H fun v38 H =>
qG v31 true (fun k => k v38 H) H fun v39 H =>
qG v39 false (fun k => k s4 H) H fun v40 H =>
qG v39 false (fun k => qGtr X 21 v40 (.int .i32 57) fun v => k v H) H fun v41 H =>
qG v31 true (fun k => qPick v39 (.bool true) v41 fun v => k v H) H fun v42 H =>
qPick v31 v42 (.bool false) fun v43 =>
k [s0, s2, s3, s4, s5, s7, s8, s9, v43] H : R))
noncomputable def r33_4 (k : KT R) : KT R := fun fr H => opn 9 fr (fun s0 s2 s3 s4 s5 s7 s8 s9 s43 => 
(qGeq X 21 s4 (.int .i32 97) fun v13 =>
qG v13 true (fun k => k s4 H) H fun v15 H =>
qG v13 true (fun k => qLeq X 21 v15 (.int .i32 122) fun v => k v H) H fun v16 H =>
qPick v13 v16 (.bool false) fun v17 =>
qG v17 false (fun k => k s4 H) H fun v19 H =>
qG v17 false (fun k => qGeq X 21 v19 (.int .i32 65) fun v => k v H) H fun v20 H =>
qG v17 false (fun k => k v20 H) H fun v21 H =>
qG v21 true (fun k => k s4 H) H fun v22 H =>
qG v21 true (fun k => qLeq X 21 v22 (.int .i32 90) fun v => k v H) H fun v23 H =>
qG v17 false (fun k => qPick v21 v23 (.bool false) fun v => k v H) H fun v24 H =>
qPick v17 (.bool true) v24 fun v25 =>
qG v25 false (fun k => k s4 H) H fun v27 H =>
qG v25 false (fun k => qEql X 21 v27 (.int .i32 95) fun v => k v H) H fun v28 H =>
qPick v25 (.bool true) v28 fun v29 =>
k [s0, s2, s3, s4, v29, s7, s8, s9, s43] H : R))
noncomputable def r33_3 (k : KT R) : KT R := fun fr H => opn 9 fr (fun s0 s2 s3 s4 s5 s7 s8 s9 s43 => 
(qExt s8 1 fun v10 =>
qExt s8 2 fun v11 =>
k [s0, s2, v10, v11, s5, s7, s8, s9, s43] H : R))
noncomputable def r33_2 (k : KT R) : KT R := fun fr H => opn 9 fr (fun s0 s2 s3 s4 s5 s7 s8 s9 s43 => 
(qNext s7 H fun v8 H =>
qExt v8 0 fun v9 =>
k [s0, s2, s3, s4, s5, s7, v8, v9, s43] H : R))
noncomputable def l33_5 (k1 : KT R) (kr : KT R) : KT R → KT R := fun k2 => (r33_2 (qCd (sel 7) (fun k5 => k5) (fun _ => k1) (qBl (fun k3 => (r33_3 (r33_4 (r33_5 (qCd (sel 8) (fun _ => (r33_6 kr)) (fun k4 => k4) k3))))) k2)))
noncomputable def r33_1 (k : KT R) : KT R := fun fr H => opn 9 fr (fun s0 s2 s3 s4 s5 s7 s8 s9 s43 => 
(qRange s0 H fun v7 H =>
k [s0, s2, s3, s4, s5, v7, s8, s9, s43] H : R))
noncomputable def r33_0 (k : KT R) : KT R := fun fr H => opn 9 fr (fun s0 s2 s3 s4 s5 s7 s8 s9 s43 => 
(k [s0, (.bool false), s3, s4, s5, s7, s8, s9, s43] H : R))
noncomputable def c33 (C : CallF) (l0 : List AV) (H : AH) (k : AV → AH → R) : R := opn 1 l0 (fun x0 => (qFn (fun kr => (r33_0 (r33_1 (qBl (fun k1 => (qLoop (l33_5 k1 kr))) (r33_7 kr)))))
(fun fr H => k (sel 1 fr) H) [x0, Aes.undef, Aes.undef, Aes.undef, Aes.undef, Aes.undef, Aes.undef, Aes.undef, Aes.undef] H : R))
/- refectory/refectoryref01.Valid -/
noncomputable def r35_7 (k : KT R) : KT R := fun fr H => opn 6 fr (fun s0 s2 s3 s5 s9 s17 => 
(k [s0, (.bool true), s3, s5, s9, s17] H : R))
noncomputable def r35_6 (k : KT R) : KT R := fun fr H => opn 6 fr (fun s0 s2 s3 s5 s9 s17 => 
(qAdd X 3 s3 s5 fun v20 =>
k [s0, s2, v20, s5, s9, s17] H : R))
noncomputable def r35_5 (k : KT R) : KT R := fun fr H => opn 6 fr (fun s0 s2 s3 s5 s9 s17 => 
(k [s0, (.bool false), s3, s5, s9, s17] H : R))
noncomputable def r35_4 (k : KT R) : KT R := fun fr H => opn 6 fr (fun s0 s2 s3 s5 s9 s17 => 
(qEql X 3 s5 (.int .i64 0) fun v17 =>
k [s0, s2, s3, s5, s9, v17] H : R))
noncomputable def r35_3 (C : CallF) (k : KT R) : KT R := fun fr H => opn 6 fr (fun s0 s2 s3 s5 s9 s17 => 
(qRes (C 58 [s0, s3] H) fun v13 H =>
qExt v13 0 fun v14 =>
qExt v13 1 fun v15 =>
k [s0, s2, s3, v15, s9, s17] H : R))
noncomputable def r35_2 (k : KT R) : KT R := fun fr H => opn 6 fr (fun s0 s2 s3 s5 s9 s17 => 
(qLenS s0 fun v8 =>
qLss X 3 s3 v8 fun v9 =>
k [s0, s2, s3, s5, v9, s17] H : R))
noncomputable def l35_5 (C : CallF) (k1 : KT R) (kr : KT R) : KT R → KT R := fun k2 => (r35_2 (qCd (sel 4) (fun k5 => k5) (fun _ => k1) (qBl (fun k3 => (r35_3 C (r35_4 (qCd (sel 5) (fun _ => (r35_5 kr)) (fun k4 => k4) (r35_6 k3))))) k2)))
noncomputable def r35_1 (k : KT R) : KT R := fun fr H => opn 6 fr (fun s0 s2 s3 s5 s9 s17 => 
(k [s0, s2, (.int .i64 0), s5, s9, s17] H : R))
noncomputable def r35_0 (k : KT R) : KT R := fun fr H => opn 6 fr (fun s0 s2 s3 s5 s9 s17 => 
(k [s0, (.bool false), s3, s5, s9, s17] H : R))
noncomputable def c35 (C : CallF) (l0 : List AV) (H : AH) (k : AV → AH → R) : R := opn 1 l0 (fun x0 => (qFn (fun kr => (r35_0 (r35_1 (qBl (fun k1 => (qLoop (l35_5 C k1 kr))) (r35_7 kr)))))
(fun fr H => k (sel 1 fr) H) [x0, Aes.undef, Aes.undef, Aes.undef, Aes.undef, Aes.undef] H : R))
/- refectory/refectoryref01.Name -/
noncomputable def r36_6 (k : KT R) : KT R := fun fr H => opn 5 fr (fun s0 s2 s3 s7 s25 => 
(qLenS s0 fun v27 =>
qGeq X 3 v27 (.int .i64 1) fun v28 =>
qG v28 true (fun k => k s0 H) H fun v30 H =>
qG v28 true (fun k => qLenS v30 fun v => k v H) H fun v31 H =>
qG v28 true (fun k => qLeq X 3 v31 (.int .i64 40) fun v => k v H) H fun v32 H =>
qPick v28 v32 (.bool false) fun v33 =>
k [s0, v33, s3, s7, s25] H : R))
noncomputable def r36_3 (k : KT R) : KT R := fun fr H => opn 5 fr (fun s0 s2 s3 s7 s25 => 
(qAdd X 3 s3 (.int .i64 1) fun v9 =>
k [s0, s2, v9, s7, s25] H : R))
noncomputable def r36_5 (k : KT R) : KT R := fun fr H => opn 5 fr (fun s0 s2 s3 s7 s25 => 
(k [s0, (.bool false), s3, s7, s25] H : R))
noncomputable def r36_4 (C : CallF) (k : KT R) : KT R := fun fr H => opn 5 fr (fun s0 s2 s3 s7 s25 => 
(qIx s0 s3 fun v12 =>
qRes (C 59 [v12] H) fun v13 H =>
qNot v13 fun v14 =>
qG v14 true (fun k => k s3 H) H fun v16 H =>
qG v14 true (fun k => qEql X 3 v16 (.int .i64 0) fun v => k v H) H fun v17 H =>
qG v14 true (fun k => k v17 H) H fun v18 H =>
qG v18 false (fun k => k s0 H) H fun v19 H =>
qG v18 false (fun k => k s3 H) H fun v20 H =>
qG v18 false (fun k => qIx v19 v20 fun v => k v H) H fun v21 H =>
qG v18 false (fun k => qRes (C 60 [v21] H) k) H fun v22 H =>
qG v18 false (fun k => qNot v22 fun v => k v H) H fun v23 H =>
qG v14 true (fun k => qPick v18 (.bool true) v23 fun v => k v H) H fun v24 H =>
qPick v14 v24 (.bool false) fun v25 =>
k [s0, s2, s3, s7, v25] H : R))
noncomputable def r36_2 (k : KT R) : KT R := fun fr H => opn 5 fr (fun s0 s2 s3 s7 s25 => 
(qLenS s0 fun v6 =>
qLss X 3 s3 v6 fun v7 =>
k [s0, s2, s3, v7, s25] H : R))
noncomputable def l36_5 (C : CallF) (k1 : KT R) (kr : KT R) : KT R → KT R := fun k2 => (r36_2 (qCd (sel 3) (fun k5 => k5) (fun _ => k1) (qBl (fun k3 => (r36_4 C (qCd (sel 4) (fun _ => (r36_5 kr)) (fun k4 => k4) k3))) (r36_3 k2))))
noncomputable def r36_1 (k : KT R) : KT R := fun fr H => opn 5 fr (fun s0 s2 s3 s7 s25 => 
(k [s0, s2, (.int .i64 0), s7, s25] H : R))
noncomputable def r36_0 (k : KT R) : KT R := fun fr H => opn 5 fr (fun s0 s2 s3 s7 s25 => 
(k [s0, (.bool false), s3, s7, s25] H : R))
noncomputable def c36 (C : CallF) (l0 : List AV) (H : AH) (k : AV → AH → R) : R := opn 1 l0 (fun x0 => (qFn (fun kr => (r36_0 (r36_1 (qBl (fun k1 => (qLoop (l36_5 C k1 kr))) (r36_6 kr)))))
(fun fr H => k (sel 1 fr) H) [x0, Aes.undef, Aes.undef, Aes.undef, Aes.undef] H : R))
/- refectory/refectoryref01.Quote -/
noncomputable def r37_15 (k : KT R) : KT R := fun fr H => opn 10 fr (fun s0 s2 s3 s4 s5 s8 s12 s25 s40 s51 => 
(qAdd X 9 s3 (.str [34]) fun v75 =>
k [s0, v75, s3, s4, s5, s8, s12, s25, s40, s51] H : R))
noncomputable def r37_6 (k : KT R) : KT R := fun fr H => opn 10 fr (fun s0 s2 s3 s4 s5 s8 s12 s25 s40 s51 => 
(qAdd X 3 s4 (.int .i64 1) fun v14 =>
k [s0, s2, s3, v14, s5, s8, s12, s25, s40, s51] H : R))
noncomputable def r37_10 (k : KT R) : KT R := fun fr H => opn 10 fr (fun s0 s2 s3 s4 s5 s8 s12 s25 s40 s51 => 
(qAdd X 9 s3 (.str [92]) fun v33 =>
qAdd X 3 s4 (.int .i64 1) fun v37 =>
qSlc Tryd.t9.desc 0 s0 (some s4) (some v37) none fun v38 =>
qAdd X 9 v33 v38 fun v39 =>
k [s0, s2, v39, s4, s5, s8, s12, s25, s40, s51] H : R))
noncomputable def r37_12 (C : CallF) (k : KT R) : KT R := fun fr H => opn 10 fr (fun s0 s2 s3 s4 s5 s8 s12 s25 s40 s51 => 
(qAdd X 9 s3 (.str [92]) fun v45 =>
qRes (C 61 [s5] H) fun v47 H =>
qRows z5 1 [(0, v47)] fun v48 =>
qBstr v48 H fun v49 =>
qAdd X 9 v45 v49 fun v50 =>
k [s0, s2, v50, s4, s5, s8, s12, s25, s40, s51] H : R))
noncomputable def r37_14 (k : KT R) : KT R := fun fr H => opn 10 fr (fun s0 s2 s3 s4 s5 s8 s12 s25 s40 s51 => 
(qAdd X 9 s3 (.str [92,117,48,48]) fun v59 =>
qQuo X 5 s5 (.int .u8 16) fun v61 =>
qQuo X 5 s5 (.int .u8 16) fun v63 =>
qAdd X 5 v63 (.int .u8 1) fun v64 =>
qSlc Tryd.t9.desc 0 (.str [48,49,50,51,52,53,54,55,56,57,97,98,99,100,101,102]) (some v61) (some v64) none fun v65 =>
qAdd X 9 v59 v65 fun v66 =>
qRem X 5 s5 (.int .u8 16) fun v68 =>
qRem X 5 s5 (.int .u8 16) fun v70 =>
qAdd X 5 v70 (.int .u8 1) fun v71 =>
qSlc Tryd.t9.desc 0 (.str [48,49,50,51,52,53,54,55,56,57,97,98,99,100,101,102]) (some v68) (some v71) none fun v72 =>
qAdd X 9 v66 v72 fun v73 =>
k [s0, s2, v73, s4, s5, s8, s12, s25, s40, s51] H : R))
noncomputable def r37_8 (k : KT R) : KT R := fun fr H => opn 10 fr (fun s0 s2 s3 s4 s5 s8 s12 s25 s40 s51 => 
(qAdd X 3 s4 (.int .i64 1) fun v22 =>
qSlc Tryd.t9.desc 0 s0 (some s4) (some v22) none fun v23 =>
qAdd X 9 s3 v23 fun v24 =>
k [s0, s2, v24, s4, s5, s8, s12, s25, s40, s51] H : R))
noncomputable def r37_13 (k : KT R) : KT R := fun fr H => opn 10 fr (fun s0 s2 s3 s4 s5 s8 s12 s25 s40 s51 => 
(qLss X 5 s5 (.int .u8 32) fun v53 =>
qG v53 false (fun k => k s5 H) H fun v55 H =>
qG v53 false (fun k => qEql X 5 v55 (.int .u8 127) fun v => k v H) H fun v56 H =>
qPick v53 (.bool true) v56 fun v57 =>
k [s0, s2, s3, s4, s5, s8, s12, s25, s40, v57] H : R))
noncomputable def r37_11 (C : CallF) (k : KT R) : KT R := fun fr H => opn 10 fr (fun s0 s2 s3 s4 s5 s8 s12 s25 s40 s51 => 
(qRes (C 61 [s5] H) fun v42 H =>
qNeq X 5 v42 (.int .u8 0) fun v43 =>
k [s0, s2, s3, s4, s5, s8, s12, s25, v43, s51] H : R))
noncomputable def r37_9 (k : KT R) : KT R := fun fr H => opn 10 fr (fun s0 s2 s3 s4 s5 s8 s12 s25 s40 s51 => 
(qEql X 5 s5 (.int .u8 34) fun v27 =>
qG v27 false (fun k => k s5 H) H fun v29 H =>
qG v27 false (fun k => qEql X 5 v29 (.int .u8 92) fun v => k v H) H fun v30 H =>
qPick v27 (.bool true) v30 fun v31 =>
k [s0, s2, s3, s4, s5, s8, s12, v31, s40, s51] H : R))
noncomputable def r37_7 (k : KT R) : KT R := fun fr H => opn 10 fr (fun s0 s2 s3 s4 s5 s8 s12 s25 s40 s51 => 
(qIx s0 s4 fun v17 =>
k [s0, s2, s3, s4, v17, s8, s12, s25, s40, s51] H : R))
noncomputable def r37_5 (k : KT R) : KT R := fun fr H => opn 10 fr (fun s0 s2 s3 s4 s5 s8 s12 s25 s40 s51 => 
(qLenS s0 fun v11 =>
qLss X 3 s4 v11 fun v12 =>
k [s0, s2, s3, s4, s5, s8, v12, s25, s40, s51] H : R))
noncomputable def l37_8 (C : CallF) (k1 : KT R) : KT R → KT R := fun k2 => (r37_5 (qCd (sel 6) (fun k8 => k8) (fun _ => k1) (qBl (fun k3 => (r37_7 (qBl (fun k4 => (r37_9 (qCd (sel 7) (fun k5 => (r37_10 k5)) (fun k5 => (r37_11 C (qCd (sel 8) (fun k6 => (r37_12 C k6)) (fun k6 => (r37_13 (qCd (sel 9) (fun k7 => (r37_14 k7)) (fun k7 => (r37_8 k7)) k6))) k5))) k4))) k3))) (r37_6 k2))))
noncomputable def r37_4 (k : KT R) : KT R := fun fr H => opn 10 fr (fun s0 s2 s3 s4 s5 s8 s12 s25 s40 s51 => 
(k [s0, s2, s3, (.int .i64 0), s5, s8, s12, s25, s40, s51] H : R))
noncomputable def r37_3 (k : KT R) : KT R := fun fr H => opn 10 fr (fun s0 s2 s3 s4 s5 s8 s12 s25 s40 s51 => 
(k [s0, s2, (.str [34]), s4, s5, s8, s12, s25, s40, s51] H : R))
noncomputable def r37_2 (k : KT R) : KT R := fun fr H => opn 10 fr (fun s0 s2 s3 s4 s5 s8 s12 s25 s40 s51 => 
(k [s0, (.str []), s3, s4, s5, s8, s12, s25, s40, s51] H : R))
noncomputable def r37_1 (C : CallF) (k : KT R) : KT R := fun fr H => opn 10 fr (fun s0 s2 s3 s4 s5 s8 s12 s25 s40 s51 => 
(qRes (C 35 [s0] H) fun v7 H =>
qNot v7 fun v8 =>
k [s0, s2, s3, s4, s5, v8, s12, s25, s40, s51] H : R))
noncomputable def r37_0 (k : KT R) : KT R := fun fr H => opn 10 fr (fun s0 s2 s3 s4 s5 s8 s12 s25 s40 s51 => 
(k [s0, (.str []), s3, s4, s5, s8, s12, s25, s40, s51] H : R))
noncomputable def c37 (C : CallF) (l0 : List AV) (H : AH) (k : AV → AH → R) : R := opn 1 l0 (fun x0 => (qFn (fun kr => (r37_0 (r37_1 C (qCd (sel 5) (fun _ => (r37_2 kr)) (fun k9 => k9) (r37_3 (r37_4 (qBl (fun k1 => (qLoop (l37_8 C k1))) (r37_15 kr))))))))
(fun fr H => k (sel 1 fr) H) [x0, Aes.undef, Aes.undef, Aes.undef, Aes.undef, Aes.undef, Aes.undef, Aes.undef, Aes.undef, Aes.undef] H : R))
/- refectory/runes.Block -/
noncomputable def r38_20 (C : CallF) (k : KT R) : KT R := fun fr H => opn 18 fr (fun s0 s2 s3 s4 s6 s7 s8 s9 s15 s16 s17 s18 s35 s40 s41 s42 s73 s88 => 
(qRes (C 66 [s3, (.str [10])] H) fun v95 H =>
k [s0, v95, s3, s4, s6, s7, s8, s9, s15, s16, s17, s18, s35, s40, s41, s42, s73, s88] H : R))
noncomputable def r38_19 (k : KT R) : KT R := fun fr H => opn 18 fr (fun s0 s2 s3 s4 s6 s7 s8 s9 s15 s16 s17 s18 s35 s40 s41 s42 s73 s88 => 
(qLenL s3 fun v91 =>
qSub X 3 v91 (.int .i64 1) fun v92 =>
qSlc Tryd.t22.desc 1 s3 none (some v92) none fun v93 =>
k [s0, s2, v93, s4, s6, s7, s8, s9, s15, s16, s17, s18, s35, s40, s41, s42, s73, s88] H : R))
noncomputable def r38_18 (C : CallF) (k : KT R) : KT R := fun fr H => opn 18 fr (fun s0 s2 s3 s4 s6 s7 s8 s9 s15 s16 s17 s18 s35 s40 s41 s42 s73 s88 => 
(qLenL s3 fun v77 =>
qGtr X 3 v77 (.int .i64 0) fun v78 =>
qG v78 true (fun k => k s9 H) H fun v80 H =>
qG v78 true (fun k => k s3 H) H fun v81 H =>
qG v78 true (fun k => k s3 H) H fun v82 H =>
qG v78 true (fun k => qLenL v82 fun v => k v H) H fun v83 H =>
qG v78 true (fun k => qSub X 3 v83 (.int .i64 1) fun v => k v H) H fun v84 H =>
qG v78 true (fun k => qIa 1 v81 v84 fun v => k v H) H fun v85 H =>
qG v78 true (fun k => qLd v85 H fun v => k v H) H fun v86 H =>
qG v78 true (fun k => qCallV C v80 [v86] H k) H fun v87 H =>
qPick v78 v87 (.bool false) fun v88 =>
k [s0, s2, s3, s4, s6, s7, s8, s9, s15, s16, s17, s18, s35, s40, s41, s42, s73, v88] H : R))
noncomputable def l38_4 (C : CallF) (k1 : KT R) : KT R → KT R := fun k2 => (r38_18 C (qCd (sel 17) (fun k4 => k4) (fun _ => k1) (qBl (fun k3 => (r38_19 k3)) k2)))
noncomputable def r38_17 (k : KT R) : KT R := fun fr H => opn 18 fr (fun s0 s2 s3 s4 s6 s7 s8 s9 s15 s16 s17 s18 s35 s40 s41 s42 s73 s88 => 
(qSlc Tryd.t22.desc 1 s3 (some (.int .i64 1)) none none fun v75 =>
k [s0, s2, v75, s4, s6, s7, s8, s9, s15, s16, s17, s18, s35, s40, s41, s42, s73, s88] H : R))
noncomputable def r38_16 (C : CallF) (k : KT R) : KT R := fun fr H => opn 18 fr (fun s0 s2 s3 s4 s6 s7 s8 s9 s15 s16 s17 s18 s35 s40 s41 s42 s73 s88 => 
(qLenL s3 fun v65 =>
qGtr X 3 v65 (.int .i64 0) fun v66 =>
qG v66 true (fun k => k s9 H) H fun v68 H =>
qG v66 true (fun k => k s3 H) H fun v69 H =>
qG v66 true (fun k => qIa 1 v69 (.int .i64 0) fun v => k v H) H fun v70 H =>
qG v66 true (fun k => qLd v70 H fun v => k v H) H fun v71 H =>
qG v66 true (fun k => qCallV C v68 [v71] H k) H fun v72 H =>
qPick v66 v72 (.bool false) fun v73 =>
k [s0, s2, s3, s4, s6, s7, s8, s9, s15, s16, s17, s18, s35, s40, s41, s42, v73, s88] H : R))
noncomputable def l38_8 (C : CallF) (k5 : KT R) : KT R → KT R := fun k6 => (r38_16 C (qCd (sel 16) (fun k8 => k8) (fun _ => k5) (qBl (fun k7 => (r38_17 k7)) k6)))
noncomputable def r38_15 (k : KT R) : KT R := fun fr H => opn 18 fr (fun s0 s2 s3 s4 s6 s7 s8 s9 s15 s16 s17 s18 s35 s40 s41 s42 s73 s88 => 
(k [s0, s2, s3, s4, s6, s7, s8, (.fn (.func 65) [] []), s15, s16, s17, s18, s35, s40, s41, s42, s73, s88] H : R))
noncomputable def r38_14 (k : KT R) : KT R := fun fr H => opn 18 fr (fun s0 s2 s3 s4 s6 s7 s8 s9 s15 s16 s17 s18 s35 s40 s41 s42 s73 s88 => 
(qAdd X 3 s41 (.int .i64 1) fun v63 =>
k [s0, s2, s3, s4, s6, s7, s8, s9, s15, s16, s17, s18, s35, s40, v63, s42, s73, s88] H : R))
noncomputable def r38_13 (C : CallF) (k : KT R) : KT R := fun fr H => opn 18 fr (fun s0 s2 s3 s4 s6 s7 s8 s9 s15 s16 s17 s18 s35 s40 s41 s42 s73 s88 => 
(qAdd X 3 (.int .i64 1) s8 fun v46 =>
qAdd X 3 (.int .i64 1) s8 fun v49 =>
qIa 1 s3 v49 fun v50 =>
qLd v50 H fun v51 =>
qO (foldO max2 s4 [(.int .i64 0)]) fun v53 =>
qAdd X 3 (.int .i64 1) s8 fun v56 =>
qIa 1 s3 v56 fun v57 =>
qLd v57 H fun v58 =>
qRes (C 64 [v58] H) fun v59 H =>
qLd v50 H fun w => qSame v51 w (qO (foldO min2 v53 [v59]) fun v60 =>
qSlc Tryd.t9.desc 0 v51 (some v60) none none fun v61 =>
qIa 1 s3 v46 fun v62 =>
qSt 1 v62 v61 H fun _ H =>
k [s0, s2, s3, s4, s6, s7, s8, s9, s15, s16, s17, s18, s35, s40, s41, s42, s73, s88] H) : R))
noncomputable def r38_12 (k : KT R) : KT R := fun fr H => opn 18 fr (fun s0 s2 s3 s4 s6 s7 s8 s9 s15 s16 s17 s18 s35 s40 s41 s42 s73 s88 => 
(k [s0, s2, s3, s4, s6, s7, s41, s9, s15, s16, s17, s18, s35, s40, s41, s42, s73, s88] H : R))
noncomputable def r38_11 (k : KT R) : KT R := fun fr H => opn 18 fr (fun s0 s2 s3 s4 s6 s7 s8 s9 s15 s16 s17 s18 s35 s40 s41 s42 s73 s88 => 
(qLss X 3 s41 s40 fun v42 =>
k [s0, s2, s3, s4, s6, s7, s8, s9, s15, s16, s17, s18, s35, s40, s41, v42, s73, s88] H : R))
noncomputable def l38_12 (C : CallF) (k9 : KT R) : KT R → KT R := fun k10 => (r38_11 (qCd (sel 15) (fun k12 => k12) (fun _ => k9) (qBl (fun k11 => (r38_12 (r38_13 C k11))) (r38_14 k10))))
noncomputable def r38_10 (k : KT R) : KT R := fun fr H => opn 18 fr (fun s0 s2 s3 s4 s6 s7 s8 s9 s15 s16 s17 s18 s35 s40 s41 s42 s73 s88 => 
(qSlc Tryd.t22.desc 1 s3 (some (.int .i64 1)) none none fun v39 =>
qLenL v39 fun v40 =>
k [s0, s2, s3, s4, s6, s7, s8, s9, s15, s16, s17, s18, s35, v40, (.int .i64 0), s42, s73, s88] H : R))
noncomputable def r38_9 (k : KT R) : KT R := fun fr H => opn 18 fr (fun s0 s2 s3 s4 s6 s7 s8 s9 s15 s16 s17 s18 s35 s40 s41 s42 s73 s88 => 
(qAdd X 3 s17 (.int .i64 1) fun v37 =>
k [s0, s2, s3, s4, s6, s7, s8, s9, s15, s16, v37, s18, s35, s40, s41, s42, s73, s88] H : R))
noncomputable def r38_8 (k : KT R) : KT R := fun fr H => opn 18 fr (fun s0 s2 s3 s4 s6 s7 s8 s9 s15 s16 s17 s18 s35 s40 s41 s42 s73 s88 => 
(k [s0, s2, s3, s7, s6, s7, s8, s9, s15, s16, s17, s18, s35, s40, s41, s42, s73, s88] H : R))
noncomputable def r38_7 (k : KT R) : KT R := fun fr H => opn 18 fr (fun s0 s2 s3 s4 s6 s7 s8 s9 s15 s16 s17 s18 s35 s40 s41 s42 s73 s88 => 
(qLenS s6 fun v25 =>
qLss X 3 s7 v25 fun v26 =>
qG v26 true (fun k => k s4 H) H fun v28 H =>
qG v26 true (fun k => qLss X 3 v28 (.int .i64 0) fun v => k v H) H fun v29 H =>
qG v26 true (fun k => k v29 H) H fun v30 H =>
qG v30 false (fun k => k s7 H) H fun v31 H =>
qG v30 false (fun k => k s4 H) H fun v32 H =>
qG v30 false (fun k => qLss X 3 v31 v32 fun v => k v H) H fun v33 H =>
qG v26 true (fun k => qPick v30 (.bool true) v33 fun v => k v H) H fun v34 H =>
qPick v26 v34 (.bool false) fun v35 =>
k [s0, s2, s3, s4, s6, s7, s8, s9, s15, s16, s17, s18, v35, s40, s41, s42, s73, s88] H : R))
noncomputable def r38_6 (C : CallF) (k : KT R) : KT R := fun fr H => opn 18 fr (fun s0 s2 s3 s4 s6 s7 s8 s9 s15 s16 s17 s18 s35 s40 s41 s42 s73 s88 => 
(qRes (C 64 [s6] H) fun v22 H =>
k [s0, s2, s3, s4, s6, v22, s8, s9, s15, s16, s17, s18, s35, s40, s41, s42, s73, s88] H : R))
noncomputable def r38_5 (k : KT R) : KT R := fun fr H => opn 18 fr (fun s0 s2 s3 s4 s6 s7 s8 s9 s15 s16 s17 s18 s35 s40 s41 s42 s73 s88 => 
(qIa 1 s15 s17 fun v19 =>
qLd v19 H fun v20 =>
k [s0, s2, s3, s4, v20, s7, s8, s9, s15, s16, s17, s18, s35, s40, s41, s42, s73, s88] H : R))
noncomputable def r38_4 (k : KT R) : KT R := fun fr H => opn 18 fr (fun s0 s2 s3 s4 s6 s7 s8 s9 s15 s16 s17 s18 s35 s40 s41 s42 s73 s88 => 
(qLss X 3 s17 s16 fun v18 =>
k [s0, s2, s3, s4, s6, s7, s8, s9, s15, s16, s17, v18, s35, s40, s41, s42, s73, s88] H : R))
noncomputable def l38_17 (C : CallF) (k13 : KT R) : KT R → KT R := fun k14 => (r38_4 (qCd (sel 11) (fun k17 => k17) (fun _ => k13) (qBl (fun k15 => (r38_5 (r38_6 C (r38_7 (qCd (sel 12) (fun k16 => (r38_8 k16)) (fun k16 => k16) k15))))) (r38_9 k14))))
noncomputable def r38_3 (k : KT R) : KT R := fun fr H => opn 18 fr (fun s0 s2 s3 s4 s6 s7 s8 s9 s15 s16 s17 s18 s35 s40 s41 s42 s73 s88 => 
(qSlc Tryd.t22.desc 1 s3 (some (.int .i64 1)) none none fun v15 =>
qLenL v15 fun v16 =>
k [s0, s2, s3, s4, s6, s7, s8, s9, v15, v16, (.int .i64 0), s18, s35, s40, s41, s42, s73, s88] H : R))
noncomputable def r38_2 (k : KT R) : KT R := fun fr H => opn 18 fr (fun s0 s2 s3 s4 s6 s7 s8 s9 s15 s16 s17 s18 s35 s40 s41 s42 s73 s88 => 
(k [s0, s2, s3, (.int .i64 (-1)), s6, s7, s8, s9, s15, s16, s17, s18, s35, s40, s41, s42, s73, s88] H : R))
noncomputable def r38_1 (C : CallF) (k : KT R) : KT R := fun fr H => opn 18 fr (fun s0 s2 s3 s4 s6 s7 s8 s9 s15 s16 s17 s18 s35 s40 s41 s42 s73 s88 => 
(qRes (C 63 [s0, (.str [13,10]), (.str [10])] H) fun v11 H =>
qRes (C 63 [v11, (.str [13]), (.str [10])] H) fun v12 H =>
qRes (C 62 [v12, (.str [10])] H) fun v13 H =>
k [s0, s2, v13, s4, s6, s7, s8, s9, s15, s16, s17, s18, s35, s40, s41, s42, s73, s88] H : R))
noncomputable def r38_0 (k : KT R) : KT R := fun fr H => opn 18 fr (fun s0 s2 s3 s4 s6 s7 s8 s9 s15 s16 s17 s18 s35 s40 s41 s42 s73 s88 => 
(k [s0, (.str []), s3, s4, s6, s7, s8, s9, s15, s16, s17, s18, s35, s40, s41, s42, s73, s88] H : R))
noncomputable def c38 (C : CallF) (l0 : List AV) (H : AH) (k : AV → AH → R) : R := opn 1 l0 (fun x0 => (qFn (fun kr => (r38_0 (r38_1 C (r38_2 (r38_3 (qBl (fun k13 => (qLoop (l38_17 C k13))) (r38_10 (qBl (fun k9 => (qLoop (l38_12 C k9))) (r38_15 (qBl (fun k5 => (qLoop (l38_8 C k5))) (qBl (fun k1 => (qLoop (l38_4 C k1))) (r38_20 C kr))))))))))))
(fun fr H => k (sel 1 fr) H) [x0, Aes.undef, Aes.undef, Aes.undef, Aes.undef, Aes.undef, Aes.undef, Aes.undef, Aes.undef, Aes.undef, Aes.undef, Aes.undef, Aes.undef, Aes.undef, Aes.undef, Aes.undef, Aes.undef, Aes.undef] H : R))
/- refectory/refectoryref01.Block -/
noncomputable def r39_24 (k : KT R) : KT R := fun fr H => opn 16 fr (fun s0 s2 s3 s4 s5 s6 s7 s8 s9 s15 s38 s47 s78 s100 s109 s113 => 
(k [s0, s8, s3, s4, s5, s6, s7, s8, s9, s15, s38, s47, s78, s100, s109, s113] H : R))
noncomputable def r39_20 (k : KT R) : KT R := fun fr H => opn 16 fr (fun s0 s2 s3 s4 s5 s6 s7 s8 s9 s15 s38 s47 s78 s100 s109 s113 => 
(qAdd X 3 s9 (.int .i64 1) fun v111 =>
k [s0, s2, s3, s4, s5, s6, s7, s8, v111, s15, s38, s47, s78, s100, s109, s113] H : R))
noncomputable def r39_23 (k : KT R) : KT R := fun fr H => opn 16 fr (fun s0 s2 s3 s4 s5 s6 s7 s8 s9 s15 s38 s47 s78 s100 s109 s113 => 
(qIa 1 s3 s9 fun v119 =>
qLd v119 H fun v120 =>
qAdd X 9 s8 v120 fun v121 =>
k [s0, s2, s3, s4, s5, s6, s7, v121, s9, s15, s38, s47, s78, s100, s109, s113] H : R))
noncomputable def r39_22 (k : KT R) : KT R := fun fr H => opn 16 fr (fun s0 s2 s3 s4 s5 s6 s7 s8 s9 s15 s38 s47 s78 s100 s109 s113 => 
(qAdd X 9 s8 (.str [10]) fun v115 =>
k [s0, s2, s3, s4, s5, s6, s7, v115, s9, s15, s38, s47, s78, s100, s109, s113] H : R))
noncomputable def r39_21 (k : KT R) : KT R := fun fr H => opn 16 fr (fun s0 s2 s3 s4 s5 s6 s7 s8 s9 s15 s38 s47 s78 s100 s109 s113 => 
(qGtr X 3 s9 (.int .i64 0) fun v113 =>
k [s0, s2, s3, s4, s5, s6, s7, s8, s9, s15, s38, s47, s78, s100, s109, v113] H : R))
noncomputable def r39_19 (k : KT R) : KT R := fun fr H => opn 16 fr (fun s0 s2 s3 s4 s5 s6 s7 s8 s9 s15 s38 s47 s78 s100 s109 s113 => 
(qLenL s3 fun v108 =>
qLss X 3 s9 v108 fun v109 =>
k [s0, s2, s3, s4, s5, s6, s7, s8, s9, s15, s38, s47, s78, s100, v109, s113] H : R))
noncomputable def l39_5 (k1 : KT R) : KT R → KT R := fun k2 => (r39_19 (qCd (sel 14) (fun k5 => k5) (fun _ => k1) (qBl (fun k3 => (r39_21 (qCd (sel 15) (fun k4 => (r39_22 k4)) (fun k4 => k4) (r39_23 k3)))) (r39_20 k2))))
noncomputable def r39_18 (k : KT R) : KT R := fun fr H => opn 16 fr (fun s0 s2 s3 s4 s5 s6 s7 s8 s9 s15 s38 s47 s78 s100 s109 s113 => 
(k [s0, s2, s3, s4, s5, s6, s7, s8, (.int .i64 0), s15, s38, s47, s78, s100, s109, s113] H : R))
noncomputable def r39_17 (k : KT R) : KT R := fun fr H => opn 16 fr (fun s0 s2 s3 s4 s5 s6 s7 s8 s9 s15 s38 s47 s78 s100 s109 s113 => 
(k [s0, s2, s3, s4, s5, s6, s7, (.str []), s9, s15, s38, s47, s78, s100, s109, s113] H : R))
noncomputable def r39_16 (k : KT R) : KT R := fun fr H => opn 16 fr (fun s0 s2 s3 s4 s5 s6 s7 s8 s9 s15 s38 s47 s78 s100 s109 s113 => 
(qLenL s3 fun v103 =>
qSub X 3 v103 (.int .i64 1) fun v104 =>
qSlc Tryd.t22.desc 1 s3 none (some v104) none fun v105 =>
k [s0, s2, v105, s4, s5, s6, s7, s8, s9, s15, s38, s47, s78, s100, s109, s113] H : R))
noncomputable def r39_15 (C : CallF) (k : KT R) : KT R := fun fr H => opn 16 fr (fun s0 s2 s3 s4 s5 s6 s7 s8 s9 s15 s38 s47 s78 s100 s109 s113 => 
(qLenL s3 fun v82 =>
qGtr X 3 v82 (.int .i64 0) fun v83 =>
qG v83 true (fun k => k s3 H) H fun v85 H =>
qG v83 true (fun k => k s3 H) H fun v86 H =>
qG v83 true (fun k => qLenL v86 fun v => k v H) H fun v87 H =>
qG v83 true (fun k => qSub X 3 v87 (.int .i64 1) fun v => k v H) H fun v88 H =>
qG v83 true (fun k => qIa 1 v85 v88 fun v => k v H) H fun v89 H =>
qG v83 true (fun k => qLd v89 H fun v => k v H) H fun v90 H =>
qG v83 true (fun k => k s3 H) H fun v92 H =>
qG v83 true (fun k => k s3 H) H fun v93 H =>
qG v83 true (fun k => qLenL v93 fun v => k v H) H fun v94 H =>
qG v83 true (fun k => qSub X 3 v94 (.int .i64 1) fun v => k v H) H fun v95 H =>
qG v83 true (fun k => qIa 1 v92 v95 fun v => k v H) H fun v96 H =>
qG v83 true (fun k => qLd v96 H fun v => k v H) H fun v97 H =>
qG v83 true (fun k => qLenS v97 fun v => k v H) H fun v98 H =>
qG v83 true (fun k => qRes (C 68 [v90] H) fun v H => qLd v96 H fun w => qSame v97 w (k v H)) H fun v91 H =>
qG v83 true (fun k => qEql X 3 v91 v98 fun v => k v H) H fun v99 H =>
qPick v83 v99 (.bool false) fun v100 =>
k [s0, s2, s3, s4, s5, s6, s7, s8, s9, s15, s38, s47, s78, v100, s109, s113] H : R))
noncomputable def l39_9 (C : CallF) (k6 : KT R) : KT R → KT R := fun k7 => (r39_15 C (qCd (sel 13) (fun k9 => k9) (fun _ => k6) (qBl (fun k8 => (r39_16 k8)) k7)))
noncomputable def r39_14 (k : KT R) : KT R := fun fr H => opn 16 fr (fun s0 s2 s3 s4 s5 s6 s7 s8 s9 s15 s38 s47 s78 s100 s109 s113 => 
(qSlc Tryd.t22.desc 1 s3 (some (.int .i64 1)) none none fun v80 =>
k [s0, s2, v80, s4, s5, s6, s7, s8, s9, s15, s38, s47, s78, s100, s109, s113] H : R))
noncomputable def r39_13 (C : CallF) (k : KT R) : KT R := fun fr H => opn 16 fr (fun s0 s2 s3 s4 s5 s6 s7 s8 s9 s15 s38 s47 s78 s100 s109 s113 => 
(qLenL s3 fun v66 =>
qGtr X 3 v66 (.int .i64 0) fun v67 =>
qG v67 true (fun k => k s3 H) H fun v69 H =>
qG v67 true (fun k => qIa 1 v69 (.int .i64 0) fun v => k v H) H fun v70 H =>
qG v67 true (fun k => qLd v70 H fun v => k v H) H fun v71 H =>
qG v67 true (fun k => k s3 H) H fun v73 H =>
qG v67 true (fun k => qIa 1 v73 (.int .i64 0) fun v => k v H) H fun v74 H =>
qG v67 true (fun k => qLd v74 H fun v => k v H) H fun v75 H =>
qG v67 true (fun k => qLenS v75 fun v => k v H) H fun v76 H =>
qG v67 true (fun k => qRes (C 68 [v71] H) fun v H => qLd v74 H fun w => qSame v75 w (k v H)) H fun v72 H =>
qG v67 true (fun k => qEql X 3 v72 v76 fun v => k v H) H fun v77 H =>
qPick v67 v77 (.bool false) fun v78 =>
k [s0, s2, s3, s4, s5, s6, s7, s8, s9, s15, s38, s47, v78, s100, s109, s113] H : R))
noncomputable def l39_13 (C : CallF) (k10 : KT R) : KT R → KT R := fun k11 => (r39_13 C (qCd (sel 12) (fun k13 => k13) (fun _ => k10) (qBl (fun k12 => (r39_14 k12)) k11)))
noncomputable def r39_11 (k : KT R) : KT R := fun fr H => opn 16 fr (fun s0 s2 s3 s4 s5 s6 s7 s8 s9 s15 s38 s47 s78 s100 s109 s113 => 
(qAdd X 3 s7 (.int .i64 1) fun v49 =>
k [s0, s2, s3, s4, s5, s6, v49, s8, s9, s15, s38, s47, s78, s100, s109, s113] H : R))
noncomputable def r39_12 (C : CallF) (k : KT R) : KT R := fun fr H => opn 16 fr (fun s0 s2 s3 s4 s5 s6 s7 s8 s9 s15 s38 s47 s78 s100 s109 s113 => 
(qIa 1 s3 s7 fun v54 =>
qLd v54 H fun v55 =>
qIa 1 s3 s7 fun v59 =>
qLd v59 H fun v60 =>
qRes (C 68 [v60] H) fun v61 H =>
qLd v54 H fun w => qSame v55 w (qO (foldO min2 s4 [v61]) fun v62 =>
qSlc Tryd.t9.desc 0 v55 (some v62) none none fun v63 =>
qIa 1 s3 s7 fun v64 =>
qSt 1 v64 v63 H fun _ H =>
k [s0, s2, s3, s4, s5, s6, s7, s8, s9, s15, s38, s47, s78, s100, s109, s113] H) : R))
noncomputable def r39_10 (k : KT R) : KT R := fun fr H => opn 16 fr (fun s0 s2 s3 s4 s5 s6 s7 s8 s9 s15 s38 s47 s78 s100 s109 s113 => 
(qLenL s3 fun v42 =>
qLss X 3 s7 v42 fun v43 =>
qG v43 true (fun k => k s4 H) H fun v45 H =>
qG v43 true (fun k => qGtr X 3 v45 (.int .i64 0) fun v => k v H) H fun v46 H =>
qPick v43 v46 (.bool false) fun v47 =>
k [s0, s2, s3, s4, s5, s6, s7, s8, s9, s15, s38, v47, s78, s100, s109, s113] H : R))
noncomputable def l39_17 (C : CallF) (k14 : KT R) : KT R → KT R := fun k15 => (r39_10 (qCd (sel 11) (fun k17 => k17) (fun _ => k14) (qBl (fun k16 => (r39_12 C k16)) (r39_11 k15))))
noncomputable def r39_9 (k : KT R) : KT R := fun fr H => opn 16 fr (fun s0 s2 s3 s4 s5 s6 s7 s8 s9 s15 s38 s47 s78 s100 s109 s113 => 
(k [s0, s2, s3, s4, s5, s6, (.int .i64 1), s8, s9, s15, s38, s47, s78, s100, s109, s113] H : R))
noncomputable def r39_5 (k : KT R) : KT R := fun fr H => opn 16 fr (fun s0 s2 s3 s4 s5 s6 s7 s8 s9 s15 s38 s47 s78 s100 s109 s113 => 
(qAdd X 3 s5 (.int .i64 1) fun v17 =>
k [s0, s2, s3, s4, v17, s6, s7, s8, s9, s15, s38, s47, s78, s100, s109, s113] H : R))
noncomputable def r39_8 (k : KT R) : KT R := fun fr H => opn 16 fr (fun s0 s2 s3 s4 s5 s6 s7 s8 s9 s15 s38 s47 s78 s100 s109 s113 => 
(k [s0, s2, s3, s6, s5, s6, s7, s8, s9, s15, s38, s47, s78, s100, s109, s113] H : R))
noncomputable def r39_7 (k : KT R) : KT R := fun fr H => opn 16 fr (fun s0 s2 s3 s4 s5 s6 s7 s8 s9 s15 s38 s47 s78 s100 s109 s113 => 
(qIa 1 s3 s5 fun v26 =>
qLd v26 H fun v27 =>
qLenS v27 fun v28 =>
qLss X 3 s6 v28 fun v29 =>
qG v29 true (fun k => k s4 H) H fun v31 H =>
qG v29 true (fun k => qLss X 3 v31 (.int .i64 0) fun v => k v H) H fun v32 H =>
qG v29 true (fun k => k v32 H) H fun v33 H =>
qG v33 false (fun k => k s6 H) H fun v34 H =>
qG v33 false (fun k => k s4 H) H fun v35 H =>
qG v33 false (fun k => qLss X 3 v34 v35 fun v => k v H) H fun v36 H =>
qG v29 true (fun k => qPick v33 (.bool true) v36 fun v => k v H) H fun v37 H =>
qPick v29 v37 (.bool false) fun v38 =>
k [s0, s2, s3, s4, s5, s6, s7, s8, s9, s15, v38, s47, s78, s100, s109, s113] H : R))
noncomputable def r39_6 (C : CallF) (k : KT R) : KT R := fun fr H => opn 16 fr (fun s0 s2 s3 s4 s5 s6 s7 s8 s9 s15 s38 s47 s78 s100 s109 s113 => 
(qIa 1 s3 s5 fun v20 =>
qLd v20 H fun v21 =>
qRes (C 68 [v21] H) fun v22 H =>
k [s0, s2, s3, s4, s5, v22, s7, s8, s9, s15, s38, s47, s78, s100, s109, s113] H : R))
noncomputable def r39_4 (k : KT R) : KT R := fun fr H => opn 16 fr (fun s0 s2 s3 s4 s5 s6 s7 s8 s9 s15 s38 s47 s78 s100 s109 s113 => 
(qLenL s3 fun v14 =>
qLss X 3 s5 v14 fun v15 =>
k [s0, s2, s3, s4, s5, s6, s7, s8, s9, v15, s38, s47, s78, s100, s109, s113] H : R))
noncomputable def l39_22 (C : CallF) (k18 : KT R) : KT R → KT R := fun k19 => (r39_4 (qCd (sel 9) (fun k22 => k22) (fun _ => k18) (qBl (fun k20 => (r39_6 C (r39_7 (qCd (sel 10) (fun k21 => (r39_8 k21)) (fun k21 => k21) k20)))) (r39_5 k19))))
noncomputable def r39_3 (k : KT R) : KT R := fun fr H => opn 16 fr (fun s0 s2 s3 s4 s5 s6 s7 s8 s9 s15 s38 s47 s78 s100 s109 s113 => 
(k [s0, s2, s3, s4, (.int .i64 1), s6, s7, s8, s9, s15, s38, s47, s78, s100, s109, s113] H : R))
noncomputable def r39_2 (k : KT R) : KT R := fun fr H => opn 16 fr (fun s0 s2 s3 s4 s5 s6 s7 s8 s9 s15 s38 s47 s78 s100 s109 s113 => 
(k [s0, s2, s3, (.int .i64 (-1)), s5, s6, s7, s8, s9, s15, s38, s47, s78, s100, s109, s113] H : R))
noncomputable def r39_1 (C : CallF) (k : KT R) : KT R := fun fr H => opn 16 fr (fun s0 s2 s3 s4 s5 s6 s7 s8 s9 s15 s38 s47 s78 s100 s109 s113 => 
(qRes (C 67 [s0] H) fun v11 H =>
k [s0, s2, v11, s4, s5, s6, s7, s8, s9, s15, s38, s47, s78, s100, s109, s113] H : R))
noncomputable def r39_0 (k : KT R) : KT R := fun fr H => opn 16 fr (fun s0 s2 s3 s4 s5 s6 s7 s8 s9 s15 s38 s47 s78 s100 s109 s113 => 
(k [s0, (.str []), s3, s4, s5, s6, s7, s8, s9, s15, s38, s47, s78, s100, s109, s113] H : R))
noncomputable def c39 (C : CallF) (l0 : List AV) (H : AH) (k : AV → AH → R) : R := opn 1 l0 (fun x0 => (qFn (fun kr => (r39_0 (r39_1 C (r39_2 (r39_3 (qBl (fun k18 => (qLoop (l39_22 C k18))) (r39_9 (qBl (fun k14 => (qLoop (l39_17 C k14))) (qBl (fun k10 => (qLoop (l39_13 C k10))) (qBl (fun k6 => (qLoop (l39_9 C k6))) (r39_17 (r39_18 (qBl (fun k1 => (qLoop (l39_5 k1))) (r39_24 kr))))))))))))))
(fun fr H => k (sel 1 fr) H) [x0, Aes.undef, Aes.undef, Aes.undef, Aes.undef, Aes.undef, Aes.undef, Aes.undef, Aes.undef, Aes.undef, Aes.undef, Aes.undef, Aes.undef, Aes.undef, Aes.undef, Aes.undef] H : R))
/- strings.TrimPrefix -/
noncomputable def r40_1 (C : CallF) (k : KT R) : KT R := fun fr H => opn 3 fr (fun s0 s1 s4 => 
(qRes (C 69 [s0, s1] H) fun v7 H =>
k [s0, s1, v7] H : R))
noncomputable def r40_0 (k : KT R) : KT R := fun fr H => opn 3 fr (fun s0 s1 s4 => 
(k [s0, s1, (.str [])] H : R))
noncomputable def c40 (C : CallF) (l0 : List AV) (H : AH) (k : AV → AH → R) : R := opn 2 l0 (fun x0 x1 => (qFn (fun kr => (r40_0 (r40_1 C kr)))
(fun fr H => k (sel 2 fr) H) [x0, x1, Aes.undef] H : R))
/- refectory/jval.digits -/
noncomputable def r41_1 (C : CallF) (k : KT R) : KT R := fun fr H => opn 2 fr (fun s0 s2 => 
(qLenS s0 fun v4 =>
qRes (C 70 [s0, (.str [48,49,50,51,52,53,54,55,56,57])] H) fun v6 H =>
qLenS v6 fun v7 =>
qSub X 3 v4 v7 fun v8 =>
k [s0, v8] H : R))
noncomputable def r41_0 (k : KT R) : KT R := fun fr H => opn 2 fr (fun s0 s2 => 
(k [s0, (.int .i64 0)] H : R))
noncomputable def c41 (C : CallF) (l0 : List AV) (H : AH) (k : AV → AH → R) : R := opn 1 l0 (fun x0 => (qFn (fun kr => (r41_0 (r41_1 C kr)))
(fun fr H => k (sel 1 fr) H) [x0, Aes.undef] H : R))
/- strings.CutPrefix -/
noncomputable def r42_1 (C : CallF) (k : KT R) : KT R := fun fr H => opn 4 fr (fun s0 s1 s4 s5 => 
(qRes (C 71 [s0, s1] H) fun v8 H =>
qExt v8 0 fun v9 =>
qExt v8 1 fun v10 =>
k [s0, s1, v9, v10] H : R))
noncomputable def r42_0 (k : KT R) : KT R := fun fr H => opn 4 fr (fun s0 s1 s4 s5 => 
(k [s0, s1, (.str []), (.bool false)] H : R))
noncomputable def c42 (C : CallF) (l0 : List AV) (H : AH) (k : AV → AH → R) : R := opn 2 l0 (fun x0 x1 => (qFn (fun kr => (r42_0 (r42_1 C kr)))
(fun fr H => k (.tup [(sel 2 fr), (sel 3 fr)]) H) [x0, x1, Aes.undef, Aes.undef] H : R))
/- strings.IndexByte -/
noncomputable def r43_1 (C : CallF) (k : KT R) : KT R := fun fr H => opn 3 fr (fun s0 s1 s4 => 
(qRes (C 72 [s0, s1] H) fun v7 H =>
k [s0, s1, v7] H : R))
noncomputable def r43_0 (k : KT R) : KT R := fun fr H => opn 3 fr (fun s0 s1 s4 => 
(k [s0, s1, (.int .i64 0)] H : R))
noncomputable def c43 (C : CallF) (l0 : List AV) (H : AH) (k : AV → AH → R) : R := opn 2 l0 (fun x0 x1 => (qFn (fun kr => (r43_0 (r43_1 C kr)))
(fun fr H => k (sel 2 fr) H) [x0, x1, Aes.undef] H : R))
/- refectory/jval.right -/
noncomputable def r45_28 (k : KT R) : KT R := fun fr H => opn 23 fr (fun s0 s1 s2 s4 s5 s6 s7 s9 s11 s23 s24 s32 s45 s65 s73 s83 s84 s103 s105 s106 s107 s108 s115 => 
(k [s0, s1, s2, (.bool true), s5, s6, s7, s9, s11, s23, s24, s32, s45, s65, s73, s83, s84, s103, s105, s106, s107, s108, s115] H : R))
noncomputable def r45_27 (k : KT R) : KT R := fun fr H => opn 23 fr (fun s0 s1 s2 s4 s5 s6 s7 s9 s11 s23 s24 s32 s45 s65 s73 s83 s84 s103 s105 s106 s107 s108 s115 => 
(qAdd X 3 s107 (.int .i64 1) fun v116 =>
k [s0, s1, s2, s4, s5, s6, s7, s9, s11, s23, s24, s32, s45, s65, s73, s83, s84, s103, s105, s106, v116, s108, s115] H : R))
noncomputable def r45_26 (k : KT R) : KT R := fun fr H => opn 23 fr (fun s0 s1 s2 s4 s5 s6 s7 s9 s11 s23 s24 s32 s45 s65 s73 s83 s84 s103 s105 s106 s107 s108 s115 => 
(k [s0, s1, s2, (.bool false), s5, s6, s7, s9, s11, s23, s24, s32, s45, s65, s73, s83, s84, s103, s105, s106, s107, s108, s115] H : R))
noncomputable def r45_25 (C : CallF) (k : KT R) : KT R := fun fr H => opn 23 fr (fun s0 s1 s2 s4 s5 s6 s7 s9 s11 s23 s24 s32 s45 s65 s73 s83 s84 s103 s105 s106 s107 s108 s115 => 
(qLdA 4 s9 H fun v111 =>
qSub X 3 s1 (.int .i64 1) fun v113 =>
qRes (C 45 [v111, v113] H) fun v114 H =>
qNot v114 fun v115 =>
k [s0, s1, s2, s4, s5, s6, s7, s9, s11, s23, s24, s32, s45, s65, s73, s83, s84, s103, s105, s106, s107, s108, v115] H : R))
noncomputable def r45_24 (k : KT R) : KT R := fun fr H => opn 23 fr (fun s0 s1 s2 s4 s5 s6 s7 s9 s11 s23 s24 s32 s45 s65 s73 s83 s84 s103 s105 s106 s107 s108 s115 => 
(qIa 4 s105 s107 fun v109 =>
qLdA 4 v109 H fun v110 =>
qNew (.cells z25) .ptr H fun v9 H =>
qSt 4 v9 v110 H fun _ H =>
k [s0, s1, s2, s4, s5, s6, s7, v9, s11, s23, s24, s32, s45, s65, s73, s83, s84, s103, s105, s106, s107, s108, s115] H : R))
noncomputable def r45_23 (k : KT R) : KT R := fun fr H => opn 23 fr (fun s0 s1 s2 s4 s5 s6 s7 s9 s11 s23 s24 s32 s45 s65 s73 s83 s84 s103 s105 s106 s107 s108 s115 => 
(qLss X 3 s107 s106 fun v108 =>
k [s0, s1, s2, s4, s5, s6, s7, s9, s11, s23, s24, s32, s45, s65, s73, s83, s84, s103, s105, s106, s107, v108, s115] H : R))
noncomputable def l45_5 (C : CallF) (k1 : KT R) (kr : KT R) : KT R → KT R := fun k2 => (r45_23 (qCd (sel 21) (fun k5 => k5) (fun _ => k1) (qBl (fun k3 => (r45_24 (r45_25 C (qCd (sel 22) (fun _ => (r45_26 kr)) (fun k4 => k4) k3)))) (r45_27 k2))))
noncomputable def r45_22 (k : KT R) : KT R := fun fr H => opn 23 fr (fun s0 s1 s2 s4 s5 s6 s7 s9 s11 s23 s24 s32 s45 s65 s73 s83 s84 s103 s105 s106 s107 s108 s115 => 
(qFa 3 s2 fun v104 =>
qLd v104 H fun v105 =>
qLenL v105 fun v106 =>
k [s0, s1, s2, s4, s5, s6, s7, s9, s11, s23, s24, s32, s45, s65, s73, s83, s84, s103, v105, v106, (.int .i64 0), s108, s115] H : R))
noncomputable def r45_7 (k : KT R) : KT R := fun fr H => opn 23 fr (fun s0 s1 s2 s4 s5 s6 s7 s9 s11 s23 s24 s32 s45 s65 s73 s83 s84 s103 s105 s106 s107 s108 s115 => 
(qG s5 true (fun k => qFa 1 s2 fun v => k v H) H fun v28 H =>
qG s5 true (fun k => qLd v28 H fun v => k v H) H fun v29 H =>
qG s5 true (fun k => qEql X 9 v29 (.str []) fun v => k v H) H fun v30 H =>
qPick s5 v30 (.bool false) fun v31 =>
k [s0, s1, s2, v31, s5, s6, s7, s9, s11, s23, s24, s32, s45, s65, s73, s83, s84, s103, s105, s106, s107, s108, s115] H : R))
noncomputable def r45_9 (k : KT R) : KT R := fun fr H => opn 23 fr (fun s0 s1 s2 s4 s5 s6 s7 s9 s11 s23 s24 s32 s45 s65 s73 s83 s84 s103 s105 s106 s107 s108 s115 => 
(qG s5 true (fun k => qFa 1 s2 fun v => k v H) H fun v36 H =>
qG s5 true (fun k => qLd v36 H fun v => k v H) H fun v37 H =>
qG s5 true (fun k => qEql X 9 v37 (.str [116,114,117,101]) fun v => k v H) H fun v38 H =>
qG s5 true (fun k => k v38 H) H fun v39 H =>
qG v39 false (fun k => qFa 1 s2 fun v => k v H) H fun v40 H =>
qG v39 false (fun k => qLd v40 H fun v => k v H) H fun v41 H =>
qG v39 false (fun k => qEql X 9 v41 (.str [102,97,108,115,101]) fun v => k v H) H fun v42 H =>
qG s5 true (fun k => qPick v39 (.bool true) v42 fun v => k v H) H fun v43 H =>
qPick s5 v43 (.bool false) fun v44 =>
k [s0, s1, s2, v44, s5, s6, s7, s9, s11, s23, s24, s32, s45, s65, s73, s83, s84, s103, s105, s106, s107, s108, s115] H : R))
noncomputable def r45_13 (k : KT R) : KT R := fun fr H => opn 23 fr (fun s0 s1 s2 s4 s5 s6 s7 s9 s11 s23 s24 s32 s45 s65 s73 s83 s84 s103 s105 s106 s107 s108 s115 => 
(qG s5 true (fun k => k s7 H) H fun v56 H =>
qPick s5 v56 (.bool false) fun v57 =>
qG v57 true (fun k => k s6 H) H fun v59 H =>
qG v57 true (fun k => qFa 0 s2 fun v => k v H) H fun v60 H =>
qG v57 true (fun k => qLd v60 H fun v => k v H) H fun v61 H =>
qG v57 true (fun k => qEql X 3 v61 (.int .i64 3) fun v => k v H) H fun v62 H =>
qG v57 true (fun k => qEql X 4 v59 v62 fun v => k v H) H fun v63 H =>
qPick v57 v63 (.bool false) fun v64 =>
k [s0, s1, s2, v64, s5, s6, s7, s9, s11, s23, s24, s32, s45, s65, s73, s83, s84, s103, s105, s106, s107, s108, s115] H : R))
noncomputable def r45_12 (C : CallF) (k : KT R) : KT R := fun fr H => opn 23 fr (fun s0 s1 s2 s4 s5 s6 s7 s9 s11 s23 s24 s32 s45 s65 s73 s83 s84 s103 s105 s106 s107 s108 s115 => 
(qFa 1 s2 fun v49 =>
qLd v49 H fun v50 =>
qRes (C 15 [v50] H) fun v51 H =>
qExt v51 0 fun v52 =>
qExt v51 1 fun v53 =>
k [s0, s1, s2, s4, s5, v52, v53, s9, s11, s23, s24, s32, s45, s65, s73, s83, s84, s103, s105, s106, s107, s108, s115] H : R))
noncomputable def r45_15 (C : CallF) (k : KT R) : KT R := fun fr H => opn 23 fr (fun s0 s1 s2 s4 s5 s6 s7 s9 s11 s23 s24 s32 s45 s65 s73 s83 s84 s103 s105 s106 s107 s108 s115 => 
(qG s5 true (fun k => qFa 1 s2 fun v => k v H) H fun v69 H =>
qG s5 true (fun k => qLd v69 H fun v => k v H) H fun v70 H =>
qG s5 true (fun k => qRes (C 30 [v70] H) k) H fun v71 H =>
qPick s5 v71 (.bool false) fun v72 =>
k [s0, s1, s2, v72, s5, s6, s7, s9, s11, s23, s24, s32, s45, s65, s73, s83, s84, s103, s105, s106, s107, s108, s115] H : R))
noncomputable def r45_18 (k : KT R) : KT R := fun fr H => opn 23 fr (fun s0 s1 s2 s4 s5 s6 s7 s9 s11 s23 s24 s32 s45 s65 s73 s83 s84 s103 s105 s106 s107 s108 s115 => 
(k [s0, s1, s2, (.bool false), s5, s6, s7, s9, s11, s23, s24, s32, s45, s65, s73, s83, s84, s103, s105, s106, s107, s108, s115] H : R))
noncomputable def r45_17 (k : KT R) : KT R := fun fr H => opn 23 fr (fun s0 s1 s2 s4 s5 s6 s7 s9 s11 s23 s24 s32 s45 s65 s73 s83 s84 s103 s105 s106 s107 s108 s115 => 
(qFa 1 s2 fun v75 =>
qLd v75 H fun v76 =>
qNeq X 9 v76 (.str []) fun v77 =>
qG v77 false (fun k => qFa 2 s2 fun v => k v H) H fun v79 H =>
qG v77 false (fun k => qLd v79 H fun v => k v H) H fun v80 H =>
qG v77 false (fun k => qLenL v80 fun v => k v H) H fun v81 H =>
qG v77 false (fun k => qNeq X 3 v81 (.int .i64 0) fun v => k v H) H fun v82 H =>
qPick v77 (.bool true) v82 fun v83 =>
k [s0, s1, s2, s4, s5, s6, s7, s9, s11, s23, s24, s32, s45, s65, s73, v83, s84, s103, s105, s106, s107, s108, s115] H : R))
noncomputable def r45_21 (k : KT R) : KT R := fun fr H => opn 23 fr (fun s0 s1 s2 s4 s5 s6 s7 s9 s11 s23 s24 s32 s45 s65 s73 s83 s84 s103 s105 s106 s107 s108 s115 => 
(k [s0, s1, s2, (.bool false), s5, s6, s7, s9, s11, s23, s24, s32, s45, s65, s73, s83, s84, s103, s105, s106, s107, s108, s115] H : R))
noncomputable def r45_20 (C : CallF) (k : KT R) : KT R := fun fr H => opn 23 fr (fun s0 s1 s2 s4 s5 s6 s7 s9 s11 s23 s24 s32 s45 s65 s73 s83 s84 s103 s105 s106 s107 s108 s115 => 
(qFa 1 s2 fun v86 =>
qLd v86 H fun v87 =>
qNeq X 9 v87 (.str []) fun v88 =>
qG v88 false (fun k => qFa 2 s2 fun v => k v H) H fun v90 H =>
qG v88 false (fun k => qLd v90 H fun v => k v H) H fun v91 H =>
qG v88 false (fun k => qLenL v91 fun v => k v H) H fun v92 H =>
qG v88 false (fun k => qFa 3 s2 fun v => k v H) H fun v93 H =>
qG v88 false (fun k => qLd v93 H fun v => k v H) H fun v94 H =>
qG v88 false (fun k => qLenL v94 fun v => k v H) H fun v95 H =>
qG v88 false (fun k => qNeq X 3 v92 v95 fun v => k v H) H fun v96 H =>
qPick v88 (.bool true) v96 fun v97 =>
qG v97 false (fun k => qFa 2 s2 fun v => k v H) H fun v99 H =>
qG v97 false (fun k => qLd v99 H fun v => k v H) H fun v100 H =>
qG v97 false (fun k => qRes (C 73 [v100] H) k) H fun v101 H =>
qG v97 false (fun k => qNot v101 fun v => k v H) H fun v102 H =>
qPick v97 (.bool true) v102 fun v103 =>
k [s0, s1, s2, s4, s5, s6, s7, s9, s11, s23, s24, s32, s45, s65, s73, s83, s84, v103, s105, s106, s107, s108, s115] H : R))
noncomputable def r45_5 (k : KT R) : KT R := fun fr H => opn 23 fr (fun s0 s1 s2 s4 s5 s6 s7 s9 s11 s23 s24 s32 s45 s65 s73 s83 s84 s103 s105 s106 s107 s108 s115 => 
(k [s0, s1, s2, (.bool false), s5, s6, s7, s9, s11, s23, s24, s32, s45, s65, s73, s83, s84, s103, s105, s106, s107, s108, s115] H : R))
noncomputable def r45_19 (k : KT R) : KT R := fun fr H => opn 23 fr (fun s0 s1 s2 s4 s5 s6 s7 s9 s11 s23 s24 s32 s45 s65 s73 s83 s84 s103 s105 s106 s107 s108 s115 => 
(qEql X 3 s23 (.int .i64 8) fun v85 =>
k [s0, s1, s2, s4, s5, s6, s7, s9, s11, s23, s24, s32, s45, s65, s73, s83, v85, s103, s105, s106, s107, s108, s115] H : R))
noncomputable def r45_16 (k : KT R) : KT R := fun fr H => opn 23 fr (fun s0 s1 s2 s4 s5 s6 s7 s9 s11 s23 s24 s32 s45 s65 s73 s83 s84 s103 s105 s106 s107 s108 s115 => 
(qEql X 3 s23 (.int .i64 7) fun v74 =>
k [s0, s1, s2, s4, s5, s6, s7, s9, s11, s23, s24, s32, s45, s65, v74, s83, s84, s103, s105, s106, s107, s108, s115] H : R))
noncomputable def r45_14 (k : KT R) : KT R := fun fr H => opn 23 fr (fun s0 s1 s2 s4 s5 s6 s7 s9 s11 s23 s24 s32 s45 s65 s73 s83 s84 s103 s105 s106 s107 s108 s115 => 
(qEql X 3 s23 (.int .i64 5) fun v66 =>
k [s0, s1, s2, s4, s5, s6, s7, s9, s11, s23, s24, s32, s45, v66, s73, s83, s84, s103, s105, s106, s107, s108, s115] H : R))
noncomputable def r45_11 (k : KT R) : KT R := fun fr H => opn 23 fr (fun s0 s1 s2 s4 s5 s6 s7 s9 s11 s23 s24 s32 s45 s65 s73 s83 s84 s103 s105 s106 s107 s108 s115 => 
(qEql X 3 s23 (.int .i64 4) fun v47 =>
k [s0, s1, s2, s4, s5, s6, s7, s9, s11, s23, s24, s32, v47, s65, s73, s83, s84, s103, s105, s106, s107, s108, s115] H : R))
noncomputable def r45_10 (k : KT R) : KT R := fun fr H => opn 23 fr (fun s0 s1 s2 s4 s5 s6 s7 s9 s11 s23 s24 s32 s45 s65 s73 s83 s84 s103 s105 s106 s107 s108 s115 => 
(qEql X 3 s23 (.int .i64 3) fun v46 =>
k [s0, s1, s2, s4, s5, s6, s7, s9, s11, s23, s24, s32, v46, s65, s73, s83, s84, s103, s105, s106, s107, s108, s115] H : R))
noncomputable def r45_8 (k : KT R) : KT R := fun fr H => opn 23 fr (fun s0 s1 s2 s4 s5 s6 s7 s9 s11 s23 s24 s32 s45 s65 s73 s83 s84 s103 s105 s106 s107 s108 s115 => 
(qEql X 3 s23 (.int .i64 2) fun v33 =>
k [s0, s1, s2, s4, s5, s6, s7, s9, s11, s23, s24, v33, s45, s65, s73, s83, s84, s103, s105, s106, s107, s108, s115] H : R))
noncomputable def r45_6 (k : KT R) : KT R := fun fr H => opn 23 fr (fun s0 s1 s2 s4 s5 s6 s7 s9 s11 s23 s24 s32 s45 s65 s73 s83 s84 s103 s105 s106 s107 s108 s115 => 
(qEql X 3 s23 (.int .i64 1) fun v25 =>
k [s0, s1, s2, s4, s5, s6, s7, s9, s11, s23, v25, s32, s45, s65, s73, s83, s84, s103, s105, s106, s107, s108, s115] H : R))
noncomputable def r45_4 (k : KT R) : KT R := fun fr H => opn 23 fr (fun s0 s1 s2 s4 s5 s6 s7 s9 s11 s23 s24 s32 s45 s65 s73 s83 s84 s103 s105 s106 s107 s108 s115 => 
(qFa 0 s2 fun v22 =>
qLd v22 H fun v23 =>
k [s0, s1, s2, s4, s5, s6, s7, s9, s11, v23, s24, s32, s45, s65, s73, s83, s84, s103, s105, s106, s107, s108, s115] H : R))
noncomputable def r45_3 (k : KT R) : KT R := fun fr H => opn 23 fr (fun s0 s1 s2 s4 s5 s6 s7 s9 s11 s23 s24 s32 s45 s65 s73 s83 s84 s103 s105 s106 s107 s108 s115 => 
(qFa 2 s2 fun v12 =>
qLd v12 H fun v13 =>
qLenL v13 fun v14 =>
qEql X 3 v14 (.int .i64 0) fun v15 =>
qG v15 true (fun k => qFa 3 s2 fun v => k v H) H fun v17 H =>
qG v15 true (fun k => qLd v17 H fun v => k v H) H fun v18 H =>
qG v15 true (fun k => qLenL v18 fun v => k v H) H fun v19 H =>
qG v15 true (fun k => qEql X 3 v19 (.int .i64 0) fun v => k v H) H fun v20 H =>
qPick v15 v20 (.bool false) fun v21 =>
k [s0, s1, s2, s4, v21, s6, s7, s9, s11, s23, s24, s32, s45, s65, s73, s83, s84, s103, s105, s106, s107, s108, s115] H : R))
noncomputable def r45_2 (k : KT R) : KT R := fun fr H => opn 23 fr (fun s0 s1 s2 s4 s5 s6 s7 s9 s11 s23 s24 s32 s45 s65 s73 s83 s84 s103 s105 s106 s107 s108 s115 => 
(k [s0, s1, s2, (.bool false), s5, s6, s7, s9, s11, s23, s24, s32, s45, s65, s73, s83, s84, s103, s105, s106, s107, s108, s115] H : R))
noncomputable def r45_1 (k : KT R) : KT R := fun fr H => opn 23 fr (fun s0 s1 s2 s4 s5 s6 s7 s9 s11 s23 s24 s32 s45 s65 s73 s83 s84 s103 s105 s106 s107 s108 s115 => 
(qLss X 3 s1 (.int .i64 1) fun v11 =>
k [s0, s1, s2, s4, s5, s6, s7, s9, v11, s23, s24, s32, s45, s65, s73, s83, s84, s103, s105, s106, s107, s108, s115] H : R))
noncomputable def r45_0 (k : KT R) : KT R := fun fr H => opn 23 fr (fun s0 s1 s2 s4 s5 s6 s7 s9 s11 s23 s24 s32 s45 s65 s73 s83 s84 s103 s105 s106 s107 s108 s115 => 
(qBox s0 H fun v2 H =>
k [s0, s1, v2, (.bool false), s5, s6, s7, s9, s11, s23, s24, s32, s45, s65, s73, s83, s84, s103, s105, s106, s107, s108, s115] H : R))
noncomputable def c45 (C : CallF) (l0 : List AV) (H : AH) (k : AV → AH → R) : R := opn 2 l0 (fun x0 x1 => (qFn (fun kr => (r45_0 (r45_1 (qCd (sel 8) (fun _ => (r45_2 kr)) (fun k16 => k16) (r45_3 (r45_4 (qBl (fun k6 => (r45_6 (qCd (sel 10) (fun _ => (r45_7 kr)) (fun k7 => (r45_8 (qCd (sel 11) (fun _ => (r45_9 kr)) (fun k8 => (r45_10 (qCd (sel 12) (fun k15 => k15) (fun k15 => (r45_11 k15)) (qCd (sel 12) (fun _ => (r45_12 C (r45_13 kr))) (fun k9 => (r45_14 (qCd (sel 13) (fun _ => (r45_15 C kr)) (fun k10 => (r45_16 (qCd (sel 14) (fun k11 => (r45_17 (qCd (sel 15) (fun _ => (r45_18 kr)) (fun k12 => k12) k11))) (fun k11 => (r45_19 (qCd (sel 16) (fun k13 => (r45_20 C (qCd (sel 17) (fun _ => (r45_21 kr)) (fun k14 => k14) k13))) (fun _ => (r45_5 kr)) k11))) k10))) k9))) k8)))) k7))) k6))) (r45_22 (qBl (fun k1 => (qLoop (l45_5 C k1 kr))) (r45_28 kr))))))))))
(fun fr H => k (sel 3 fr) H) [x0, x1, Aes.undef, Aes.undef, Aes.undef, Aes.undef, Aes.undef, Aes.undef, Aes.undef, Aes.undef, Aes.undef, Aes.undef, Aes.undef, Aes.undef, Aes.undef, Aes.undef, Aes.undef, Aes.undef, Aes.undef, Aes.undef, Aes.undef, Aes.undef, Aes.undef] H : R))
/- refectory/jval.text -/
noncomputable def r47_4 (C : CallF) (k : KT R) : KT R := fun fr H => opn 17 fr (fun s0 s1 s3 s4 s5 s6 s8 s13 s17 s24 s29 s35 s36 s37 s38 s43 s48 => 
(qRes (C 53 [s0, (.str [110,117,108,108])] H) fun v16 H =>
k [s0, s1, s3, s4, s5, s6, s8, s13, s17, s24, s29, s35, s36, s37, s38, s43, s48] H : R))
noncomputable def r47_6 (C : CallF) (k : KT R) : KT R := fun fr H => opn 17 fr (fun s0 s1 s3 s4 s5 s6 s8 s13 s17 s24 s29 s35 s36 s37 s38 s43 s48 => 
(qFa 1 s3 fun v20 =>
qLd v20 H fun v21 =>
qRes (C 29 [v21] H) fun v22 H =>
qRes (C 53 [s0, v22] H) fun v23 H =>
k [s0, s1, s3, s4, s5, s6, s8, s13, s17, s24, s29, s35, s36, s37, s38, s43, s48] H : R))
noncomputable def r47_22 (C : CallF) (k : KT R) : KT R := fun fr H => opn 17 fr (fun s0 s1 s3 s4 s5 s6 s8 s13 s17 s24 s29 s35 s36 s37 s38 s43 s48 => 
(qIx s4 (.int .i64 1) fun v64 =>
qRes (C 51 [s0, v64] H) fun v65 H =>
k [s0, s1, s3, s4, s5, s6, s8, s13, s17, s24, s29, s35, s36, s37, s38, s43, s48] H : R))
noncomputable def r47_21 (k : KT R) : KT R := fun fr H => opn 17 fr (fun s0 s1 s3 s4 s5 s6 s8 s13 s17 s24 s29 s35 s36 s37 s38 s43 s48 => 
(qAdd X 3 s37 (.int .i64 1) fun v61 =>
k [s0, s1, s3, s4, s5, s6, s8, s13, s17, s24, s29, s35, s36, v61, s38, s43, s48] H : R))
noncomputable def r47_20 (C : CallF) (k : KT R) : KT R := fun fr H => opn 17 fr (fun s0 s1 s3 s4 s5 s6 s8 s13 s17 s24 s29 s35 s36 s37 s38 s43 s48 => 
(qLdA 4 s6 H fun v59 =>
qRes (C 47 [s0, v59] H) fun v60 H =>
k [s0, s1, s3, s4, s5, s6, s8, s13, s17, s24, s29, s35, s36, s37, s38, s43, s48] H : R))
noncomputable def r47_19 (C : CallF) (k : KT R) : KT R := fun fr H => opn 17 fr (fun s0 s1 s3 s4 s5 s6 s8 s13 s17 s24 s29 s35 s36 s37 s38 s43 s48 => 
(qFa 2 s3 fun v50 =>
qLd v50 H fun v51 =>
qIa 1 v51 s5 fun v53 =>
qLd v53 H fun v54 =>
qRes (C 29 [v54] H) fun v55 H =>
qAdd X 9 v55 (.str [58]) fun v56 =>
qRes (C 53 [s0, v56] H) fun v57 H =>
k [s0, s1, s3, s4, s5, s6, s8, s13, s17, s24, s29, s35, s36, s37, s38, s43, s48] H : R))
noncomputable def r47_18 (k : KT R) : KT R := fun fr H => opn 17 fr (fun s0 s1 s3 s4 s5 s6 s8 s13 s17 s24 s29 s35 s36 s37 s38 s43 s48 => 
(qFa 0 s3 fun v46 =>
qLd v46 H fun v47 =>
qEql X 3 v47 (.int .i64 8) fun v48 =>
k [s0, s1, s3, s4, s5, s6, s8, s13, s17, s24, s29, s35, s36, s37, s38, s43, v48] H : R))
noncomputable def r47_17 (C : CallF) (k : KT R) : KT R := fun fr H => opn 17 fr (fun s0 s1 s3 s4 s5 s6 s8 s13 s17 s24 s29 s35 s36 s37 s38 s43 s48 => 
(qRes (C 51 [s0, (.int .u8 44)] H) fun v45 H =>
k [s0, s1, s3, s4, s5, s6, s8, s13, s17, s24, s29, s35, s36, s37, s38, s43, s48] H : R))
noncomputable def r47_16 (k : KT R) : KT R := fun fr H => opn 17 fr (fun s0 s1 s3 s4 s5 s6 s8 s13 s17 s24 s29 s35 s36 s37 s38 s43 s48 => 
(qGtr X 3 s5 (.int .i64 0) fun v43 =>
k [s0, s1, s3, s4, s5, s6, s8, s13, s17, s24, s29, s35, s36, s37, s38, v43, s48] H : R))
noncomputable def r47_15 (k : KT R) : KT R := fun fr H => opn 17 fr (fun s0 s1 s3 s4 s5 s6 s8 s13 s17 s24 s29 s35 s36 s37 s38 s43 s48 => 
(qIa 4 s35 s37 fun v40 =>
qLdA 4 v40 H fun v41 =>
qNew (.cells z25) .ptr H fun v6 H =>
qSt 4 v6 v41 H fun _ H =>
k [s0, s1, s3, s4, s37, v6, s8, s13, s17, s24, s29, s35, s36, s37, s38, s43, s48] H : R))
noncomputable def r47_14 (k : KT R) : KT R := fun fr H => opn 17 fr (fun s0 s1 s3 s4 s5 s6 s8 s13 s17 s24 s29 s35 s36 s37 s38 s43 s48 => 
(qLss X 3 s37 s36 fun v38 =>
k [s0, s1, s3, s4, s5, s6, s8, s13, s17, s24, s29, s35, s36, s37, v38, s43, s48] H : R))
noncomputable def l47_10 (C : CallF) (k5 : KT R) : KT R → KT R := fun k6 => (r47_14 (qCd (sel 14) (fun k10 => k10) (fun _ => k5) (qBl (fun k7 => (r47_15 (r47_16 (qCd (sel 15) (fun k9 => (r47_17 C k9)) (fun k9 => k9) (r47_18 (qCd (sel 16) (fun k8 => (r47_19 C k8)) (fun k8 => k8) (r47_20 C k7))))))) (r47_21 k6))))
noncomputable def r47_13 (k : KT R) : KT R := fun fr H => opn 17 fr (fun s0 s1 s3 s4 s5 s6 s8 s13 s17 s24 s29 s35 s36 s37 s38 s43 s48 => 
(qFa 3 s3 fun v34 =>
qLd v34 H fun v35 =>
qLenL v35 fun v36 =>
k [s0, s1, s3, s4, s5, s6, s8, s13, s17, s24, s29, v35, v36, (.int .i64 0), s38, s43, s48] H : R))
noncomputable def r47_12 (C : CallF) (k : KT R) : KT R := fun fr H => opn 17 fr (fun s0 s1 s3 s4 s5 s6 s8 s13 s17 s24 s29 s35 s36 s37 s38 s43 s48 => 
(qIx s4 (.int .i64 0) fun v32 =>
qRes (C 51 [s0, v32] H) fun v33 H =>
k [s0, s1, s3, s4, s5, s6, s8, s13, s17, s24, s29, s35, s36, s37, s38, s43, s48] H : R))
noncomputable def r47_11 (k : KT R) : KT R := fun fr H => opn 17 fr (fun s0 s1 s3 s4 s5 s6 s8 s13 s17 s24 s29 s35 s36 s37 s38 s43 s48 => 
(k [s0, s1, s3, (.str [123,125]), s5, s6, s8, s13, s17, s24, s29, s35, s36, s37, s38, s43, s48] H : R))
noncomputable def r47_10 (k : KT R) : KT R := fun fr H => opn 17 fr (fun s0 s1 s3 s4 s5 s6 s8 s13 s17 s24 s29 s35 s36 s37 s38 s43 s48 => 
(qFa 0 s3 fun v27 =>
qLd v27 H fun v28 =>
qEql X 3 v28 (.int .i64 8) fun v29 =>
k [s0, s1, s3, s4, s5, s6, s8, s13, s17, s24, v29, s35, s36, s37, s38, s43, s48] H : R))
noncomputable def r47_9 (k : KT R) : KT R := fun fr H => opn 17 fr (fun s0 s1 s3 s4 s5 s6 s8 s13 s17 s24 s29 s35 s36 s37 s38 s43 s48 => 
(k [s0, s1, s3, (.str [91,93]), s5, s6, s8, s13, s17, s24, s29, s35, s36, s37, s38, s43, s48] H : R))
noncomputable def r47_2 (C : CallF) (k : KT R) : KT R := fun fr H => opn 17 fr (fun s0 s1 s3 s4 s5 s6 s8 s13 s17 s24 s29 s35 s36 s37 s38 s43 s48 => 
(qFa 1 s3 fun v10 =>
qLd v10 H fun v11 =>
qRes (C 53 [s0, v11] H) fun v12 H =>
k [s0, s1, s3, s4, s5, s6, s8, s13, s17, s24, s29, s35, s36, s37, s38, s43, s48] H : R))
noncomputable def r47_8 (k : KT R) : KT R := fun fr H => opn 17 fr (fun s0 s1 s3 s4 s5 s6 s8 s13 s17 s24 s29 s35 s36 s37 s38 s43 s48 => 
(qEql X 3 s8 (.int .i64 8) fun v26 =>
k [s0, s1, s3, s4, s5, s6, s8, s13, s17, v26, s29, s35, s36, s37, s38, s43, s48] H : R))
noncomputable def r47_7 (k : KT R) : KT R := fun fr H => opn 17 fr (fun s0 s1 s3 s4 s5 s6 s8 s13 s17 s24 s29 s35 s36 s37 s38 s43 s48 => 
(qEql X 3 s8 (.int .i64 7) fun v25 =>
k [s0, s1, s3, s4, s5, s6, s8, s13, s17, v25, s29, s35, s36, s37, s38, s43, s48] H : R))
noncomputable def r47_5 (k : KT R) : KT R := fun fr H => opn 17 fr (fun s0 s1 s3 s4 s5 s6 s8 s13 s17 s24 s29 s35 s36 s37 s38 s43 s48 => 
(qEql X 3 s8 (.int .i64 5) fun v18 =>
k [s0, s1, s3, s4, s5, s6, s8, s13, v18, s24, s29, s35, s36, s37, s38, s43, s48] H : R))
noncomputable def r47_3 (k : KT R) : KT R := fun fr H => opn 17 fr (fun s0 s1 s3 s4 s5 s6 s8 s13 s17 s24 s29 s35 s36 s37 s38 s43 s48 => 
(qEql X 3 s8 (.int .i64 1) fun v14 =>
k [s0, s1, s3, s4, s5, s6, s8, v14, s17, s24, s29, s35, s36, s37, s38, s43, s48] H : R))
noncomputable def r47_1 (k : KT R) : KT R := fun fr H => opn 17 fr (fun s0 s1 s3 s4 s5 s6 s8 s13 s17 s24 s29 s35 s36 s37 s38 s43 s48 => 
(qFa 0 s3 fun v7 =>
qLd v7 H fun v8 =>
k [s0, s1, s3, s4, s5, s6, v8, s13, s17, s24, s29, s35, s36, s37, s38, s43, s48] H : R))
noncomputable def r47_0 (k : KT R) : KT R := fun fr H => opn 17 fr (fun s0 s1 s3 s4 s5 s6 s8 s13 s17 s24 s29 s35 s36 s37 s38 s43 s48 => 
(qBox s1 H fun v3 H =>
k [s0, s1, v3, s4, s5, s6, s8, s13, s17, s24, s29, s35, s36, s37, s38, s43, s48] H : R))
noncomputable def c47 (C : CallF) (l0 : List AV) (H : AH) (k : AV → AH → R) : R := opn 2 l0 (fun x0 x1 => (qFn (fun kr => (r47_0 (r47_1 (qBl (fun k1 => (r47_3 (qCd (sel 7) (fun k2 => (r47_4 C k2)) (fun k2 => (r47_5 (qCd (sel 8) (fun k3 => (r47_6 C k3)) (fun k3 => (r47_7 (qCd (sel 9) (fun k12 => k12) (fun k12 => (r47_8 k12)) (qCd (sel 9) (fun k4 => (r47_9 (r47_10 (qCd (sel 10) (fun k11 => (r47_11 k11)) (fun k11 => k11) (r47_12 C (r47_13 (qBl (fun k5 => (qLoop (l47_10 C k5))) (r47_22 C k4)))))))) (fun k4 => (r47_2 C k4)) k3)))) k2))) k1))) kr))))
(fun fr H => k (.tup []) H) [x0, x1, Aes.undef, Aes.undef, Aes.undef, Aes.undef, Aes.undef, Aes.undef, Aes.undef, Aes.undef, Aes.undef, Aes.undef, Aes.undef, Aes.undef, Aes.undef, Aes.undef, Aes.undef] H : R))
/- refectory/refectoryref08.Digits -/
noncomputable def r50_8 (C : CallF) (k : KT R) : KT R := fun fr H => opn 6 fr (fun s0 s2 s3 s4 s18 s28 => 
(qQuo X 3 s0 (.int .i64 10) fun v36 =>
qRem X 3 s0 (.int .i64 10) fun v39 =>
qRem X 3 s0 (.int .i64 10) fun v41 =>
qAdd X 3 v41 (.int .i64 1) fun v42 =>
qSlc Tryd.t9.desc 0 (.str [48,49,50,51,52,53,54,55,56,57]) (some v39) (some v42) none fun v43 =>
qRes (C 50 [v36] H) fun v37 H =>
qAdd X 9 v37 v43 fun v44 =>
k [s0, v44, s3, s4, s18, s28] H : R))
noncomputable def r50_3 (C : CallF) (k : KT R) : KT R := fun fr H => opn 6 fr (fun s0 s2 s3 s4 s18 s28 => 
(qQuo X 3 s0 (.int .i64 10) fun v11 =>
qAdd X 3 s3 (.int .i64 1) fun v15 =>
qSlc Tryd.t9.desc 0 (.str [48,49,50,51,52,53,54,55,56,57]) (some s3) (some v15) none fun v16 =>
qRes (C 50 [v11] H) fun v12 H =>
qAdd X 9 v12 v16 fun v17 =>
k [s0, v17, s3, s4, s18, s28] H : R))
noncomputable def r50_2 (k : KT R) : KT R := fun fr H => opn 6 fr (fun s0 s2 s3 s4 s18 s28 => 
(qRem X 3 s0 (.int .i64 10) fun v8 =>
qUn .neg v8 fun v9 =>
k [s0, s2, v9, s4, s18, s28] H : R))
noncomputable def r50_5 (k : KT R) : KT R := fun fr H => opn 6 fr (fun s0 s2 s3 s4 s18 s28 => 
(qUn .neg s0 fun v22 =>
qUn .neg s0 fun v24 =>
qAdd X 3 v24 (.int .i64 1) fun v25 =>
qSlc Tryd.t9.desc 0 (.str [48,49,50,51,52,53,54,55,56,57]) (some v22) (some v25) none fun v26 =>
qAdd X 9 (.str [45]) v26 fun v27 =>
k [s0, v27, s3, s4, s18, s28] H : R))
noncomputable def r50_7 (k : KT R) : KT R := fun fr H => opn 6 fr (fun s0 s2 s3 s4 s18 s28 => 
(qAdd X 3 s0 (.int .i64 1) fun v33 =>
qSlc Tryd.t9.desc 0 (.str [48,49,50,51,52,53,54,55,56,57]) (some s0) (some v33) none fun v34 =>
k [s0, v34, s3, s4, s18, s28] H : R))
noncomputable def r50_6 (k : KT R) : KT R := fun fr H => opn 6 fr (fun s0 s2 s3 s4 s18 s28 => 
(qLss X 3 s0 (.int .i64 10) fun v30 =>
k [s0, s2, s3, s4, s18, v30] H : R))
noncomputable def r50_4 (k : KT R) : KT R := fun fr H => opn 6 fr (fun s0 s2 s3 s4 s18 s28 => 
(qLss X 3 s0 (.int .i64 0) fun v20 =>
k [s0, s2, s3, s4, v20, s28] H : R))
noncomputable def r50_1 (k : KT R) : KT R := fun fr H => opn 6 fr (fun s0 s2 s3 s4 s18 s28 => 
(qLeq X 3 s0 (.int .i64 (-10)) fun v6 =>
k [s0, s2, s3, v6, s18, s28] H : R))
noncomputable def r50_0 (k : KT R) : KT R := fun fr H => opn 6 fr (fun s0 s2 s3 s4 s18 s28 => 
(k [s0, (.str []), s3, s4, s18, s28] H : R))
noncomputable def c50 (C : CallF) (l0 : List AV) (H : AH) (k : AV → AH → R) : R := opn 1 l0 (fun x0 => (qFn (fun kr => (r50_0 (qBl (fun k1 => (r50_1 (qCd (sel 3) (fun _ => (r50_2 (r50_3 C kr))) (fun k2 => (r50_4 (qCd (sel 4) (fun _ => (r50_5 kr)) (fun k3 => (r50_6 (qCd (sel 5) (fun _ => (r50_7 kr)) (fun k4 => k4) k3))) k2))) k1))) (r50_8 C kr))))
(fun fr H => k (sel 1 fr) H) [x0, Aes.undef, Aes.undef, Aes.undef, Aes.undef, Aes.undef] H : R))
/- (*strings.Builder).WriteByte -/
noncomputable def r51_3 (k : KT R) : KT R := fun fr H => opn 3 fr (fun s0 s1 s4 => 
(k [s0, s1, (.nilif)] H : R))
noncomputable def r51_2 (k : KT R) : KT R := fun fr H => opn 3 fr (fun s0 s1 s4 => 
(qNc s0 fun v9 =>
qFa 1 v9 fun v10 =>
qLd v10 H fun v11 =>
qRows z5 1 [(0, s1)] fun v13 =>
qApp 1 1 v11 v13 true (some 5) H fun v14 H =>
qNc s0 fun v15 =>
qFa 1 v15 fun v16 =>
qSt 1 v16 v14 H fun _ H =>
k [s0, s1, s4] H : R))
noncomputable def r51_1 (C : CallF) (k : KT R) : KT R := fun fr H => opn 3 fr (fun s0 s1 s4 => 
(qRes (C 75 [s0] H) fun v6 H =>
k [s0, s1, s4] H : R))
noncomputable def r51_0 (k : KT R) : KT R := fun fr H => opn 3 fr (fun s0 s1 s4 => 
(k [s0, s1, (.nilif)] H : R))
noncomputable def c51 (C : CallF) (l0 : List AV) (H : AH) (k : AV → AH → R) : R := opn 2 l0 (fun x0 x1 => (qFn (fun kr => (r51_0 (r51_1 C (r51_2 (r51_3 kr)))))
(fun fr H => k (sel 2 fr) H) [x0, x1, Aes.undef] H : R))
/- strings.IndexRune -/
noncomputable def r52_35 (C : CallF) (k : KT R) : KT R := fun fr H => opn 33 fr (fun s0 s1 s4 s5 s6 s7 s8 s9 s10 s11 s12 s13 s14 s15 s16 s26 s33 s43 s51 s64 s98 s108 s124 s139 s143 s156 s160 s171 s175 s176 s177 s181 s183 => 
(qConvI .u8 s1 fun v169 =>
qRes (C 43 [s0, v169] H) fun v170 H =>
k [s0, s1, v170, s5, s6, s7, s8, s9, s10, s11, s12, s13, s14, s15, s16, s26, s33, s43, s51, s64, s98, s108, s124, s139, s143, s156, s160, s171, s175, s176, s177, s181, s183] H : R))
noncomputable def r52_42 (k : KT R) : KT R := fun fr H => opn 33 fr (fun s0 s1 s4 s5 s6 s7 s8 s9 s10 s11 s12 s13 s14 s15 s16 s26 s33 s43 s51 s64 s98 s108 s124 s139 s143 s156 s160 s171 s175 s176 s177 s181 s183 => 
(k [s0, s1, (.int .i64 (-1)), s5, s6, s7, s8, s9, s10, s11, s12, s13, s14, s15, s16, s26, s33, s43, s51, s64, s98, s108, s124, s139, s143, s156, s160, s171, s175, s176, s177, s181, s183] H : R))
noncomputable def r52_41 (k : KT R) : KT R := fun fr H => opn 33 fr (fun s0 s1 s4 s5 s6 s7 s8 s9 s10 s11 s12 s13 s14 s15 s16 s26 s33 s43 s51 s64 s98 s108 s124 s139 s143 s156 s160 s171 s175 s176 s177 s181 s183 => 
(k [s0, s1, s5, s5, s6, s7, s8, s9, s10, s11, s12, s13, s14, s15, s16, s26, s33, s43, s51, s64, s98, s108, s124, s139, s143, s156, s160, s171, s175, s176, s177, s181, s183] H : R))
noncomputable def r52_40 (k : KT R) : KT R := fun fr H => opn 33 fr (fun s0 s1 s4 s5 s6 s7 s8 s9 s10 s11 s12 s13 s14 s15 s16 s26 s33 s43 s51 s64 s98 s108 s124 s139 s143 s156 s160 s171 s175 s176 s177 s181 s183 => 
(qEql X 21 s6 (.int .i32 65533) fun v181 =>
k [s0, s1, s4, s5, s6, s7, s8, s9, s10, s11, s12, s13, s14, s15, s16, s26, s33, s43, s51, s64, s98, s108, s124, s139, s143, s156, s160, s171, s175, s176, s177, v181, s183] H : R))
noncomputable def r52_39 (k : KT R) : KT R := fun fr H => opn 33 fr (fun s0 s1 s4 s5 s6 s7 s8 s9 s10 s11 s12 s13 s14 s15 s16 s26 s33 s43 s51 s64 s98 s108 s124 s139 s143 s156 s160 s171 s175 s176 s177 s181 s183 => 
(qExt s176 1 fun v178 =>
qExt s176 2 fun v179 =>
k [s0, s1, s4, v178, v179, s7, s8, s9, s10, s11, s12, s13, s14, s15, s16, s26, s33, s43, s51, s64, s98, s108, s124, s139, s143, s156, s160, s171, s175, s176, s177, s181, s183] H : R))
noncomputable def r52_38 (k : KT R) : KT R := fun fr H => opn 33 fr (fun s0 s1 s4 s5 s6 s7 s8 s9 s10 s11 s12 s13 s14 s15 s16 s26 s33 s43 s51 s64 s98 s108 s124 s139 s143 s156 s160 s171 s175 s176 s177 s181 s183 => 
(qNext s175 H fun v176 H =>
qExt v176 0 fun v177 =>
k [s0, s1, s4, s5, s6, s7, s8, s9, s10, s11, s12, s13, s14, s15, s16, s26, s33, s43, s51, s64, s98, s108, s124, s139, s143, s156, s160, s171, s175, v176, v177, s181, s183] H : R))
noncomputable def l52_8 (k4 : KT R) (kr : KT R) : KT R → KT R := fun k5 => (r52_38 (qCd (sel 30) (fun k8 => k8) (fun _ => k4) (qBl (fun k6 => (r52_39 (r52_40 (qCd (sel 31) (fun _ => (r52_41 kr)) (fun k7 => k7) k6)))) k5)))
noncomputable def r52_37 (k : KT R) : KT R := fun fr H => opn 33 fr (fun s0 s1 s4 s5 s6 s7 s8 s9 s10 s11 s12 s13 s14 s15 s16 s26 s33 s43 s51 s64 s98 s108 s124 s139 s143 s156 s160 s171 s175 s176 s177 s181 s183 => 
(qRange s0 H fun v175 H =>
k [s0, s1, s4, s5, s6, s7, s8, s9, s10, s11, s12, s13, s14, s15, s16, s26, s33, s43, s51, s64, s98, s108, s124, s139, s143, s156, s160, s171, v175, s176, s177, s181, s183] H : R))
noncomputable def r52_44 (k : KT R) : KT R := fun fr H => opn 33 fr (fun s0 s1 s4 s5 s6 s7 s8 s9 s10 s11 s12 s13 s14 s15 s16 s26 s33 s43 s51 s64 s98 s108 s124 s139 s143 s156 s160 s171 s175 s176 s177 s181 s183 => 
(k [s0, s1, (.int .i64 (-1)), s5, s6, s7, s8, s9, s10, s11, s12, s13, s14, s15, s16, s26, s33, s43, s51, s64, s98, s108, s124, s139, s143, s156, s160, s171, s175, s176, s177, s181, s183] H : R))
noncomputable def r52_33 (k : KT R) : KT R := fun fr H => opn 33 fr (fun s0 s1 s4 s5 s6 s7 s8 s9 s10 s11 s12 s13 s14 s15 s16 s26 s33 s43 s51 s64 s98 s108 s124 s139 s143 s156 s160 s171 s175 s176 s177 s181 s183 => 
(k [s0, s1, (.int .i64 (-1)), s5, s6, s7, s8, s9, s10, s11, s12, s13, s14, s15, s16, s26, s33, s43, s51, s64, s98, s108, s124, s139, s143, s156, s160, s171, s175, s176, s177, s181, s183] H : R))
noncomputable def r52_22 (k : KT R) : KT R := fun fr H => opn 33 fr (fun s0 s1 s4 s5 s6 s7 s8 s9 s10 s11 s12 s13 s14 s15 s16 s26 s33 s43 s51 s64 s98 s108 s124 s139 s143 s156 s160 s171 s175 s176 s177 s181 s183 => 
(qAdd X 3 s9 s13 fun v111 =>
qSub X 3 v111 s8 fun v113 =>
k [s0, s1, v113, s5, s6, s7, s8, s9, s10, s11, s12, s13, s14, s15, s16, s26, s33, s43, s51, s64, s98, s108, s124, s139, s143, s156, s160, s171, s175, s176, s177, s181, s183] H : R))
noncomputable def r52_21 (k : KT R) : KT R := fun fr H => opn 33 fr (fun s0 s1 s4 s5 s6 s7 s8 s9 s10 s11 s12 s13 s14 s15 s16 s26 s33 s43 s51 s64 s98 s108 s124 s139 s143 s156 s160 s171 s175 s176 s177 s181 s183 => 
(qGeq X 3 s13 (.int .i64 0) fun v108 =>
k [s0, s1, s4, s5, s6, s7, s8, s9, s10, s11, s12, s13, s14, s15, s16, s26, s33, s43, s51, s64, s98, v108, s124, s139, s143, s156, s160, s171, s175, s176, s177, s181, s183] H : R))
noncomputable def r52_20 (C : CallF) (k : KT R) : KT R := fun fr H => opn 33 fr (fun s0 s1 s4 s5 s6 s7 s8 s9 s10 s11 s12 s13 s14 s15 s16 s26 s33 s43 s51 s64 s98 s108 s124 s139 s143 s156 s160 s171 s175 s176 s177 s181 s183 => 
(qSub X 3 s9 s8 fun v102 =>
qSlc Tryd.t9.desc 0 s0 (some v102) none none fun v103 =>
qO (conv X 21 9 s1) fun v105 =>
qRes (C 78 [v103, v105] H) fun v106 H =>
k [s0, s1, s4, s5, s6, s7, s8, s9, s10, s11, s12, v106, s14, s15, s16, s26, s33, s43, s51, s64, s98, s108, s124, s139, s143, s156, s160, s171, s175, s176, s177, s181, s183] H : R))
noncomputable def r52_26 (k : KT R) : KT R := fun fr H => opn 33 fr (fun s0 s1 s4 s5 s6 s7 s8 s9 s10 s11 s12 s13 s14 s15 s16 s26 s33 s43 s51 s64 s98 s108 s124 s139 s143 s156 s160 s171 s175 s176 s177 s181 s183 => 
(qAdd X 3 s9 (.int .i64 1) fun v126 =>
k [s0, s1, s4, s5, s6, s7, s8, v126, s10, s11, s12, s13, s14, s15, s16, s26, s33, s43, s51, s64, s98, s108, s124, s139, s143, s156, s160, s171, s175, s176, s177, s181, s183] H : R))
noncomputable def r52_32 (k : KT R) : KT R := fun fr H => opn 33 fr (fun s0 s1 s4 s5 s6 s7 s8 s9 s10 s11 s12 s13 s14 s15 s16 s26 s33 s43 s51 s64 s98 s108 s124 s139 s143 s156 s160 s171 s175 s176 s177 s181 s183 => 
(qSub X 3 s9 s8 fun v159 =>
k [s0, s1, v159, s5, s6, s7, s8, s9, s10, s11, s12, s13, s14, s15, s16, s26, s33, s43, s51, s64, s98, s108, s124, s139, s143, s156, s160, s171, s175, s176, s177, s181, s183] H : R))
noncomputable def r52_30 (k : KT R) : KT R := fun fr H => opn 33 fr (fun s0 s1 s4 s5 s6 s7 s8 s9 s10 s11 s12 s13 s14 s15 s16 s26 s33 s43 s51 s64 s98 s108 s124 s139 s143 s156 s160 s171 s175 s176 s177 s181 s183 => 
(qAdd X 3 s16 (.int .i64 1) fun v145 =>
k [s0, s1, s4, s5, s6, s7, s8, s9, s10, s11, s12, s13, s14, s15, v145, s26, s33, s43, s51, s64, s98, s108, s124, s139, s143, s156, s160, s171, s175, s176, s177, s181, s183] H : R))
noncomputable def r52_31 (k : KT R) : KT R := fun fr H => opn 33 fr (fun s0 s1 s4 s5 s6 s7 s8 s9 s10 s11 s12 s13 s14 s15 s16 s26 s33 s43 s51 s64 s98 s108 s124 s139 s143 s156 s160 s171 s175 s176 s177 s181 s183 => 
(qSub X 3 s9 s16 fun v149 =>
qIx s0 v149 fun v150 =>
qSub X 3 s8 s16 fun v154 =>
qIx s7 v154 fun v155 =>
qNeq X 5 v150 v155 fun v156 =>
k [s0, s1, s4, s5, s6, s7, s8, s9, s10, s11, s12, s13, s14, s15, s16, s26, s33, s43, s51, s64, s98, s108, s124, s139, s143, v156, s160, s171, s175, s176, s177, s181, s183] H : R))
noncomputable def r52_29 (k : KT R) : KT R := fun fr H => opn 33 fr (fun s0 s1 s4 s5 s6 s7 s8 s9 s10 s11 s12 s13 s14 s15 s16 s26 s33 s43 s51 s64 s98 s108 s124 s139 s143 s156 s160 s171 s175 s176 s177 s181 s183 => 
(qLenS s7 fun v142 =>
qLss X 3 s16 v142 fun v143 =>
k [s0, s1, s4, s5, s6, s7, s8, s9, s10, s11, s12, s13, s14, s15, s16, s26, s33, s43, s51, s64, s98, s108, s124, s139, v143, s156, s160, s171, s175, s176, s177, s181, s183] H : R))
noncomputable def l52_20 (k14 : KT R) (k16 : KT R) : KT R → KT R := fun k17 => (r52_29 (qCd (sel 24) (fun k20 => k20) (fun _ => k16) (qBl (fun k18 => (r52_31 (qCd (sel 25) (fun _ => k14) (fun k19 => k19) k18))) (r52_30 k17))))
noncomputable def r52_28 (k : KT R) : KT R := fun fr H => opn 33 fr (fun s0 s1 s4 s5 s6 s7 s8 s9 s10 s11 s12 s13 s14 s15 s16 s26 s33 s43 s51 s64 s98 s108 s124 s139 s143 s156 s160 s171 s175 s176 s177 s181 s183 => 
(k [s0, s1, s4, s5, s6, s7, s8, s9, s10, s11, s12, s13, s14, s15, (.int .i64 2), s26, s33, s43, s51, s64, s98, s108, s124, s139, s143, s156, s160, s171, s175, s176, s177, s181, s183] H : R))
noncomputable def r52_27 (k : KT R) : KT R := fun fr H => opn 33 fr (fun s0 s1 s4 s5 s6 s7 s8 s9 s10 s11 s12 s13 s14 s15 s16 s26 s33 s43 s51 s64 s98 s108 s124 s139 s143 s156 s160 s171 s175 s176 s177 s181 s183 => 
(qIx s0 s9 fun v129 =>
qEql X 5 v129 s14 fun v131 =>
qG v131 true (fun k => k s0 H) H fun v133 H =>
qG v131 true (fun k => k s9 H) H fun v134 H =>
qG v131 true (fun k => qSub X 3 v134 (.int .i64 1) fun v => k v H) H fun v135 H =>
qG v131 true (fun k => qIx v133 v135 fun v => k v H) H fun v136 H =>
qG v131 true (fun k => k s15 H) H fun v137 H =>
qG v131 true (fun k => qEql X 5 v136 v137 fun v => k v H) H fun v138 H =>
qPick v131 v138 (.bool false) fun v139 =>
k [s0, s1, s4, s5, s6, s7, s8, s9, s10, s11, s12, s13, s14, s15, s16, s26, s33, s43, s51, s64, s98, s108, s124, v139, s143, s156, s160, s171, s175, s176, s177, s181, s183] H : R))
noncomputable def r52_25 (k : KT R) : KT R := fun fr H => opn 33 fr (fun s0 s1 s4 s5 s6 s7 s8 s9 s10 s11 s12 s13 s14 s15 s16 s26 s33 s43 s51 s64 s98 s108 s124 s139 s143 s156 s160 s171 s175 s176 s177 s181 s183 => 
(qLenS s0 fun v123 =>
qLss X 3 s9 v123 fun v124 =>
k [s0, s1, s4, s5, s6, s7, s8, s9, s10, s11, s12, s13, s14, s15, s16, s26, s33, s43, s51, s64, s98, s108, v124, s139, s143, s156, s160, s171, s175, s176, s177, s181, s183] H : R))
noncomputable def l52_21 (k12 : KT R) (kr : KT R) : KT R → KT R := fun k13 => (r52_25 (qCd (sel 22) (fun k21 => k21) (fun _ => k12) (qBl (fun k14 => (r52_27 (qCd (sel 23) (fun _ => (r52_28 (qBl (fun k16 => (qLoop (l52_20 k14 k16))) (r52_32 kr)))) (fun k15 => k15) k14))) (r52_26 k13))))
noncomputable def r52_24 (k : KT R) : KT R := fun fr H => opn 33 fr (fun s0 s1 s4 s5 s6 s7 s8 s9 s10 s11 s12 s13 s14 s15 s16 s26 s33 s43 s51 s64 s98 s108 s124 s139 s143 s156 s160 s171 s175 s176 s177 s181 s183 => 
(qSub X 3 s8 (.int .i64 1) fun v119 =>
qIx s7 v119 fun v120 =>
k [s0, s1, s4, s5, s6, s7, s8, s9, s10, s11, s12, s13, s14, v120, s16, s26, s33, s43, s51, s64, s98, s108, s124, s139, s143, s156, s160, s171, s175, s176, s177, s181, s183] H : R))
noncomputable def r52_23 (k : KT R) : KT R := fun fr H => opn 33 fr (fun s0 s1 s4 s5 s6 s7 s8 s9 s10 s11 s12 s13 s14 s15 s16 s26 s33 s43 s51 s64 s98 s108 s124 s139 s143 s156 s160 s171 s175 s176 s177 s181 s183 => 
(qIx s7 s8 fun v116 =>
k [s0, s1, s4, s5, s6, s7, s8, s9, s10, s11, s12, s13, v116, s15, s16, s26, s33, s43, s51, s64, s98, s108, s124, s139, s143, s156, s160, s171, s175, s176, s177, s181, s183] H : R))
noncomputable def r52_19 (k : KT R) : KT R := fun fr H => opn 33 fr (fun s0 s1 s4 s5 s6 s7 s8 s9 s10 s11 s12 s13 s14 s15 s16 s26 s33 s43 s51 s64 s98 s108 s124 s139 s143 s156 s160 s171 s175 s176 s177 s181 s183 => 
(k [s0, s1, (.int .i64 (-1)), s5, s6, s7, s8, s9, s10, s11, s12, s13, s14, s15, s16, s26, s33, s43, s51, s64, s98, s108, s124, s139, s143, s156, s160, s171, s175, s176, s177, s181, s183] H : R))
noncomputable def r52_18 (C : CallF) (k : KT R) : KT R := fun fr H => opn 33 fr (fun s0 s1 s4 s5 s6 s7 s8 s9 s10 s11 s12 s13 s14 s15 s16 s26 s33 s43 s51 s64 s98 s108 s124 s139 s143 s156 s160 s171 s175 s176 s177 s181 s183 => 
(qG (.bool true) true (fun k => k s10 H) H fun v73 H =>
qG (.bool true) true (fun k => k s9 H) H fun v74 H =>
qG (.bool true) true (fun k => qRes (C 77 [v74] H) k) H fun v75 H =>
qG (.bool true) true (fun k => qGtr X 3 v73 v75 fun v => k v H) H fun v76 H =>
qPick (.bool true) v76 (.bool false) fun v77 =>
qG v77 true (fun k => k s9 H) H fun v79 H =>
qG v77 true (fun k => k s0 H) H fun v80 H =>
qG v77 true (fun k => qLenS v80 fun v => k v H) H fun v81 H =>
qG v77 true (fun k => qLss X 3 v79 v81 fun v => k v H) H fun v82 H =>
qPick v77 v82 (.bool false) fun v83 =>
qG v83 false (fun k => k (.bool false) H) H fun v85 H =>
qG v85 true (fun k => k s10 H) H fun v86 H =>
qG v85 true (fun k => k s9 H) H fun v87 H =>
qG v85 true (fun k => qO (binop X .shr 3 v87 (.int .u64 4)) fun v => k v H) H fun v88 H =>
qG v85 true (fun k => qAdd X 3 (.int .i64 4) v88 fun v => k v H) H fun v89 H =>
qG v85 true (fun k => qGeq X 3 v86 v89 fun v => k v H) H fun v90 H =>
qG v83 false (fun k => qPick v85 v90 (.bool false) fun v => k v H) H fun v91 H =>
qG v83 false (fun k => k v91 H) H fun v92 H =>
qG v92 true (fun k => k s9 H) H fun v93 H =>
qG v92 true (fun k => k s0 H) H fun v94 H =>
qG v92 true (fun k => qLenS v94 fun v => k v H) H fun v95 H =>
qG v92 true (fun k => qLss X 3 v93 v95 fun v => k v H) H fun v96 H =>
qG v83 false (fun k => qPick v92 v96 (.bool false) fun v => k v H) H fun v97 H =>
qPick v83 (.bool true) v97 fun v98 =>
k [s0, s1, s4, s5, s6, s7, s8, s9, s10, s11, s12, s13, s14, s15, s16, s26, s33, s43, s51, s64, v98, s108, s124, s139, s143, s156, s160, s171, s175, s176, s177, s181, s183] H : R))
noncomputable def r52_17 (k : KT R) : KT R := fun fr H => opn 33 fr (fun s0 s1 s4 s5 s6 s7 s8 s9 s10 s11 s12 s13 s14 s15 s16 s26 s33 s43 s51 s64 s98 s108 s124 s139 s143 s156 s160 s171 s175 s176 s177 s181 s183 => 
(qAdd X 3 s9 (.int .i64 1) fun v71 =>
k [s0, s1, s4, s5, s6, s7, s8, v71, s10, s11, s12, s13, s14, s15, s16, s26, s33, s43, s51, s64, s98, s108, s124, s139, s143, s156, s160, s171, s175, s176, s177, s181, s183] H : R))
noncomputable def r52_16 (k : KT R) : KT R := fun fr H => opn 33 fr (fun s0 s1 s4 s5 s6 s7 s8 s9 s10 s11 s12 s13 s14 s15 s16 s26 s33 s43 s51 s64 s98 s108 s124 s139 s143 s156 s160 s171 s175 s176 s177 s181 s183 => 
(qAdd X 3 s10 (.int .i64 1) fun v69 =>
k [s0, s1, s4, s5, s6, s7, s8, s9, v69, s11, s12, s13, s14, s15, s16, s26, s33, s43, s51, s64, s98, s108, s124, s139, s143, s156, s160, s171, s175, s176, s177, s181, s183] H : R))
noncomputable def r52_15 (k : KT R) : KT R := fun fr H => opn 33 fr (fun s0 s1 s4 s5 s6 s7 s8 s9 s10 s11 s12 s13 s14 s15 s16 s26 s33 s43 s51 s64 s98 s108 s124 s139 s143 s156 s160 s171 s175 s176 s177 s181 s183 => 
(qSub X 3 s9 s8 fun v67 =>
k [s0, s1, v67, s5, s6, s7, s8, s9, s10, s11, s12, s13, s14, s15, s16, s26, s33, s43, s51, s64, s98, s108, s124, s139, s143, s156, s160, s171, s175, s176, s177, s181, s183] H : R))
noncomputable def r52_13 (k : KT R) : KT R := fun fr H => opn 33 fr (fun s0 s1 s4 s5 s6 s7 s8 s9 s10 s11 s12 s13 s14 s15 s16 s26 s33 s43 s51 s64 s98 s108 s124 s139 s143 s156 s160 s171 s175 s176 s177 s181 s183 => 
(qAdd X 3 s12 (.int .i64 1) fun v53 =>
k [s0, s1, s4, s5, s6, s7, s8, s9, s10, s11, v53, s13, s14, s15, s16, s26, s33, s43, s51, s64, s98, s108, s124, s139, s143, s156, s160, s171, s175, s176, s177, s181, s183] H : R))
noncomputable def r52_14 (k : KT R) : KT R := fun fr H => opn 33 fr (fun s0 s1 s4 s5 s6 s7 s8 s9 s10 s11 s12 s13 s14 s15 s16 s26 s33 s43 s51 s64 s98 s108 s124 s139 s143 s156 s160 s171 s175 s176 s177 s181 s183 => 
(qSub X 3 s9 s12 fun v57 =>
qIx s0 v57 fun v58 =>
qSub X 3 s8 s12 fun v62 =>
qIx s7 v62 fun v63 =>
qNeq X 5 v58 v63 fun v64 =>
k [s0, s1, s4, s5, s6, s7, s8, s9, s10, s11, s12, s13, s14, s15, s16, s26, s33, s43, s51, v64, s98, s108, s124, s139, s143, s156, s160, s171, s175, s176, s177, s181, s183] H : R))
noncomputable def r52_12 (k : KT R) : KT R := fun fr H => opn 33 fr (fun s0 s1 s4 s5 s6 s7 s8 s9 s10 s11 s12 s13 s14 s15 s16 s26 s33 s43 s51 s64 s98 s108 s124 s139 s143 s156 s160 s171 s175 s176 s177 s181 s183 => 
(qLenS s7 fun v50 =>
qLss X 3 s12 v50 fun v51 =>
k [s0, s1, s4, s5, s6, s7, s8, s9, s10, s11, s12, s13, s14, s15, s16, s26, s33, s43, v51, s64, s98, s108, s124, s139, s143, s156, s160, s171, s175, s176, s177, s181, s183] H : R))
noncomputable def l52_30 (k26 : KT R) : KT R → KT R := fun k27 => (r52_12 (qCd (sel 18) (fun k30 => k30) (fun _ => k26) (qBl (fun k28 => (r52_14 (qCd (sel 19) (fun _ => (fun _ _ => fail)) (fun k29 => k29) k28))) (r52_13 k27))))
noncomputable def r52_11 (k : KT R) : KT R := fun fr H => opn 33 fr (fun s0 s1 s4 s5 s6 s7 s8 s9 s10 s11 s12 s13 s14 s15 s16 s26 s33 s43 s51 s64 s98 s108 s124 s139 s143 s156 s160 s171 s175 s176 s177 s181 s183 => 
(k [s0, s1, s4, s5, s6, s7, s8, s9, s10, s11, (.int .i64 1), s13, s14, s15, s16, s26, s33, s43, s51, s64, s98, s108, s124, s139, s143, s156, s160, s171, s175, s176, s177, s181, s183] H : R))
noncomputable def r52_10 (k : KT R) : KT R := fun fr H => opn 33 fr (fun s0 s1 s4 s5 s6 s7 s8 s9 s10 s11 s12 s13 s14 s15 s16 s26 s33 s43 s51 s64 s98 s108 s124 s139 s143 s156 s160 s171 s175 s176 s177 s181 s183 => 
(qAdd X 3 s11 (.int .i64 1) fun v46 =>
qAdd X 3 s9 v46 fun v47 =>
k [s0, s1, s4, s5, s6, s7, s8, v47, s10, s11, s12, s13, s14, s15, s16, s26, s33, s43, s51, s64, s98, s108, s124, s139, s143, s156, s160, s171, s175, s176, s177, s181, s183] H : R))
noncomputable def r52_9 (k : KT R) : KT R := fun fr H => opn 33 fr (fun s0 s1 s4 s5 s6 s7 s8 s9 s10 s11 s12 s13 s14 s15 s16 s26 s33 s43 s51 s64 s98 s108 s124 s139 s143 s156 s160 s171 s175 s176 s177 s181 s183 => 
(k [s0, s1, (.int .i64 (-1)), s5, s6, s7, s8, s9, s10, s11, s12, s13, s14, s15, s16, s26, s33, s43, s51, s64, s98, s108, s124, s139, s143, s156, s160, s171, s175, s176, s177, s181, s183] H : R))
noncomputable def r52_8 (k : KT R) : KT R := fun fr H => opn 33 fr (fun s0 s1 s4 s5 s6 s7 s8 s9 s10 s11 s12 s13 s14 s15 s16 s26 s33 s43 s51 s64 s98 s108 s124 s139 s143 s156 s160 s171 s175 s176 s177 s181 s183 => 
(qLss X 3 s11 (.int .i64 0) fun v43 =>
k [s0, s1, s4, s5, s6, s7, s8, s9, s10, s11, s12, s13, s14, s15, s16, s26, s33, v43, s51, s64, s98, s108, s124, s139, s143, s156, s160, s171, s175, s176, s177, s181, s183] H : R))
noncomputable def r52_7 (C : CallF) (k : KT R) : KT R := fun fr H => opn 33 fr (fun s0 s1 s4 s5 s6 s7 s8 s9 s10 s11 s12 s13 s14 s15 s16 s26 s33 s43 s51 s64 s98 s108 s124 s139 s143 s156 s160 s171 s175 s176 s177 s181 s183 => 
(qAdd X 3 s9 (.int .i64 1) fun v36 =>
qSlc Tryd.t9.desc 0 s0 (some v36) none none fun v37 =>
qIx s7 s8 fun v40 =>
qRes (C 43 [v37, v40] H) fun v41 H =>
k [s0, s1, s4, s5, s6, s7, s8, s9, s10, v41, s12, s13, s14, s15, s16, s26, s33, s43, s51, s64, s98, s108, s124, s139, s143, s156, s160, s171, s175, s176, s177, s181, s183] H : R))
noncomputable def r52_6 (k : KT R) : KT R := fun fr H => opn 33 fr (fun s0 s1 s4 s5 s6 s7 s8 s9 s10 s11 s12 s13 s14 s15 s16 s26 s33 s43 s51 s64 s98 s108 s124 s139 s143 s156 s160 s171 s175 s176 s177 s181 s183 => 
(qIx s0 s9 fun v29 =>
qIx s7 s8 fun v32 =>
qNeq X 5 v29 v32 fun v33 =>
k [s0, s1, s4, s5, s6, s7, s8, s9, s10, s11, s12, s13, s14, s15, s16, s26, v33, s43, s51, s64, s98, s108, s124, s139, s143, s156, s160, s171, s175, s176, s177, s181, s183] H : R))
noncomputable def r52_5 (k : KT R) : KT R := fun fr H => opn 33 fr (fun s0 s1 s4 s5 s6 s7 s8 s9 s10 s11 s12 s13 s14 s15 s16 s26 s33 s43 s51 s64 s98 s108 s124 s139 s143 s156 s160 s171 s175 s176 s177 s181 s183 => 
(qLenS s0 fun v25 =>
qLss X 3 s9 v25 fun v26 =>
k [s0, s1, s4, s5, s6, s7, s8, s9, s10, s11, s12, s13, s14, s15, s16, v26, s33, s43, s51, s64, s98, s108, s124, s139, s143, s156, s160, s171, s175, s176, s177, s181, s183] H : R))
noncomputable def l52_33 (C : CallF) (k22 : KT R) (kr : KT R) : KT R → KT R := fun k23 => (r52_5 (qCd (sel 15) (fun k33 => k33) (fun _ => k22) (qBl (fun k24 => (r52_6 (qCd (sel 16) (fun k31 => (r52_7 C (r52_8 (qCd (sel 17) (fun _ => (r52_9 kr)) (fun k32 => k32) (r52_10 k31))))) (fun k31 => k31) (r52_11 (qBl (fun k26 => (qLoop (l52_30 k26))) (r52_15 kr)))))) k23)))
noncomputable def r52_4 (k : KT R) : KT R := fun fr H => opn 33 fr (fun s0 s1 s4 s5 s6 s7 s8 s9 s10 s11 s12 s13 s14 s15 s16 s26 s33 s43 s51 s64 s98 s108 s124 s139 s143 s156 s160 s171 s175 s176 s177 s181 s183 => 
(k [s0, s1, s4, s5, s6, s7, s8, s9, (.int .i64 0), s11, s12, s13, s14, s15, s16, s26, s33, s43, s51, s64, s98, s108, s124, s139, s143, s156, s160, s171, s175, s176, s177, s181, s183] H : R))
noncomputable def r52_3 (k : KT R) : KT R := fun fr H => opn 33 fr (fun s0 s1 s4 s5 s6 s7 s8 s9 s10 s11 s12 s13 s14 s15 s16 s26 s33 s43 s51 s64 s98 s108 s124 s139 s143 s156 s160 s171 s175 s176 s177 s181 s183 => 
(k [s0, s1, s4, s5, s6, s7, s8, s8, s10, s11, s12, s13, s14, s15, s16, s26, s33, s43, s51, s64, s98, s108, s124, s139, s143, s156, s160, s171, s175, s176, s177, s181, s183] H : R))
noncomputable def r52_2 (k : KT R) : KT R := fun fr H => opn 33 fr (fun s0 s1 s4 s5 s6 s7 s8 s9 s10 s11 s12 s13 s14 s15 s16 s26 s33 s43 s51 s64 s98 s108 s124 s139 s143 s156 s160 s171 s175 s176 s177 s181 s183 => 
(qLenS s7 fun v20 =>
qSub X 3 v20 (.int .i64 1) fun v21 =>
k [s0, s1, s4, s5, s6, s7, v21, s9, s10, s11, s12, s13, s14, s15, s16, s26, s33, s43, s51, s64, s98, s108, s124, s139, s143, s156, s160, s171, s175, s176, s177, s181, s183] H : R))
noncomputable def r52_1 (k : KT R) : KT R := fun fr H => opn 33 fr (fun s0 s1 s4 s5 s6 s7 s8 s9 s10 s11 s12 s13 s14 s15 s16 s26 s33 s43 s51 s64 s98 s108 s124 s139 s143 s156 s160 s171 s175 s176 s177 s181 s183 => 
(qO (conv X 21 9 s1) fun v18 =>
k [s0, s1, s4, s5, s6, v18, s8, s9, s10, s11, s12, s13, s14, s15, s16, s26, s33, s43, s51, s64, s98, s108, s124, s139, s143, s156, s160, s171, s175, s176, s177, s181, s183] H : R))
noncomputable def r52_43 (C : CallF) (k : KT R) : KT R := fun fr H => opn 33 fr (fun s0 s1 s4 s5 s6 s7 s8 s9 s10 s11 s12 s13 s14 s15 s16 s26 s33 s43 s51 s64 s98 s108 s124 s139 s143 s156 s160 s171 s175 s176 s177 s181 s183 => 
(qRes (C 76 [s1] H) fun v185 H =>
qNot v185 fun v186 =>
k [s0, s1, s4, s5, s6, s7, s8, s9, s10, s11, s12, s13, s14, s15, s16, s26, s33, s43, s51, s64, s98, s108, s124, s139, s143, s156, s160, s171, s175, s176, s177, s181, v186] H : R))
noncomputable def r52_36 (k : KT R) : KT R := fun fr H => opn 33 fr (fun s0 s1 s4 s5 s6 s7 s8 s9 s10 s11 s12 s13 s14 s15 s16 s26 s33 s43 s51 s64 s98 s108 s124 s139 s143 s156 s160 s171 s175 s176 s177 s181 s183 => 
(qEql X 21 s1 (.int .i32 65533) fun v173 =>
k [s0, s1, s4, s5, s6, s7, s8, s9, s10, s11, s12, s13, s14, s15, s16, s26, s33, s43, s51, s64, s98, s108, s124, s139, s143, s156, s160, v173, s175, s176, s177, s181, s183] H : R))
noncomputable def r52_34 (k : KT R) : KT R := fun fr H => opn 33 fr (fun s0 s1 s4 s5 s6 s7 s8 s9 s10 s11 s12 s13 s14 s15 s16 s26 s33 s43 s51 s64 s98 s108 s124 s139 s143 s156 s160 s171 s175 s176 s177 s181 s183 => 
(qLeq X 21 (.int .i32 0) s1 fun v162 =>
qG v162 true (fun k => k s1 H) H fun v164 H =>
qG v162 true (fun k => qLss X 21 v164 (.int .i32 128) fun v => k v H) H fun v165 H =>
qPick v162 v165 (.bool false) fun v166 =>
k [s0, s1, s4, s5, s6, s7, s8, s9, s10, s11, s12, s13, s14, s15, s16, s26, s33, s43, s51, s64, s98, s108, s124, s139, s143, s156, v166, s171, s175, s176, s177, s181, s183] H : R))
noncomputable def r52_0 (k : KT R) : KT R := fun fr H => opn 33 fr (fun s0 s1 s4 s5 s6 s7 s8 s9 s10 s11 s12 s13 s14 s15 s16 s26 s33 s43 s51 s64 s98 s108 s124 s139 s143 s156 s160 s171 s175 s176 s177 s181 s183 => 
(k [s0, s1, (.int .i64 0), s5, s6, s7, s8, s9, s10, s11, s12, s13, s14, s15, s16, s26, s33, s43, s51, s64, s98, s108, s124, s139, s143, s156, s160, s171, s175, s176, s177, s181, s183] H : R))
noncomputable def c52 (C : CallF) (l0 : List AV) (H : AH) (k : AV → AH → R) : R := opn 2 l0 (fun x0 x1 => (qFn (fun kr => (r52_0 (qBl (fun k1 => (r52_34 (qCd (sel 26) (fun _ => (r52_35 C kr)) (fun k2 => (r52_36 (qCd (sel 27) (fun _ => (r52_37 (qBl (fun k4 => (qLoop (l52_8 k4 kr))) (r52_42 kr)))) (fun k3 => (r52_43 C (qCd (sel 32) (fun _ => (r52_44 kr)) (fun _ => (r52_1 (r52_2 (r52_3 (r52_4 (qBl (fun k22 => (qLoop (l52_33 C k22 kr))) (r52_19 kr))))))) k3))) k2))) k1))) kr)))
(fun fr H => k (sel 2 fr) H) [x0, x1, Aes.undef, Aes.undef, Aes.undef, Aes.undef, Aes.undef, Aes.undef, Aes.undef, Aes.undef, Aes.undef, Aes.undef, Aes.undef, Aes.undef, Aes.undef, Aes.undef, Aes.undef, Aes.undef, Aes.undef, Aes.undef, Aes.undef, Aes.undef, Aes.undef, Aes.undef, Aes.undef, Aes.undef, Aes.undef, Aes.undef, Aes.undef, Aes.undef, Aes.undef, Aes.undef, Aes.undef] H : R))
/- (*strings.Builder).WriteString -/
noncomputable def r53_3 (k : KT R) : KT R := fun fr H => opn 4 fr (fun s0 s1 s4 s5 => 
(qLenS s1 fun v18 =>
k [s0, s1, v18, (.nilif)] H : R))
noncomputable def r53_2 (k : KT R) : KT R := fun fr H => opn 4 fr (fun s0 s1 s4 s5 => 
(qNc s0 fun v10 =>
qFa 1 v10 fun v11 =>
qLd v11 H fun v12 =>
qApp 1 1 v12 s1 true (some 5) H fun v14 H =>
qNc s0 fun v15 =>
qFa 1 v15 fun v16 =>
qSt 1 v16 v14 H fun _ H =>
k [s0, s1, s4, s5] H : R))
noncomputable def r53_1 (C : CallF) (k : KT R) : KT R := fun fr H => opn 4 fr (fun s0 s1 s4 s5 => 
(qRes (C 75 [s0] H) fun v7 H =>
k [s0, s1, s4, s5] H : R))
noncomputable def r53_0 (k : KT R) : KT R := fun fr H => opn 4 fr (fun s0 s1 s4 s5 => 
(k [s0, s1, (.int .i64 0), (.nilif)] H : R))
noncomputable def c53 (C : CallF) (l0 : List AV) (H : AH) (k : AV → AH → R) : R := opn 2 l0 (fun x0 x1 => (qFn (fun kr => (r53_0 (r53_1 C (r53_2 (r53_3 kr)))))
(fun fr H => k (.tup [(sel 2 fr), (sel 3 fr)]) H) [x0, x1, Aes.undef, Aes.undef] H : R))
/- (*strings.Builder).WriteRune -/
noncomputable def r54_4 (k : KT R) : KT R := fun fr H => opn 5 fr (fun s0 s1 s4 s5 s6 => 
(qNc s0 fun v24 =>
qFa 1 v24 fun v25 =>
qLd v25 H fun v26 =>
qLenL v26 fun v27 =>
qSub X 3 v27 s6 fun v29 =>
k [s0, s1, v29, (.nilif), s6] H : R))
noncomputable def r54_3 (C : CallF) (k : KT R) : KT R := fun fr H => opn 5 fr (fun s0 s1 s4 s5 s6 => 
(qNc s0 fun v16 =>
qFa 1 v16 fun v17 =>
qLd v17 H fun v18 =>
qRes (C 79 [v18, s1] H) fun v20 H =>
qNc s0 fun v21 =>
qFa 1 v21 fun v22 =>
qSt 1 v22 v20 H fun _ H =>
k [s0, s1, s4, s5, s6] H : R))
noncomputable def r54_2 (k : KT R) : KT R := fun fr H => opn 5 fr (fun s0 s1 s4 s5 s6 => 
(qNc s0 fun v10 =>
qFa 1 v10 fun v11 =>
qLd v11 H fun v12 =>
qLenL v12 fun v13 =>
k [s0, s1, s4, s5, v13] H : R))
noncomputable def r54_1 (C : CallF) (k : KT R) : KT R := fun fr H => opn 5 fr (fun s0 s1 s4 s5 s6 => 
(qRes (C 75 [s0] H) fun v8 H =>
k [s0, s1, s4, s5, s6] H : R))
noncomputable def r54_0 (k : KT R) : KT R := fun fr H => opn 5 fr (fun s0 s1 s4 s5 s6 => 
(k [s0, s1, (.int .i64 0), (.nilif), s6] H : R))
noncomputable def c54 (C : CallF) (l0 : List AV) (H : AH) (k : AV → AH → R) : R := opn 2 l0 (fun x0 x1 => (qFn (fun kr => (r54_0 (r54_1 C (r54_2 (r54_3 C (r54_4 kr))))))
(fun fr H => k (.tup [(sel 2 fr), (sel 3 fr)]) H) [x0, x1, Aes.undef, Aes.undef, Aes.undef] H : R))
/- refectory/runes.point -/
noncomputable def r56_9 (k : KT R) : KT R := fun fr H => opn 8 fr (fun s0 s2 s3 s4 s5 s13 s22 s31 => 
(qSub X 21 s4 (.int .i32 55296) fun v33 =>
qO (binop X .shl 21 v33 (.int .u64 10)) fun v34 =>
qSub X 21 s5 (.int .i32 56320) fun v36 =>
qAdd X 21 v34 v36 fun v37 =>
qAdd X 21 v37 (.int .i32 65536) fun v38 =>
k [s0, v38, (.int .i64 10), s4, s5, s13, s22, s31] H : R))
noncomputable def r56_8 (k : KT R) : KT R := fun fr H => opn 8 fr (fun s0 s2 s3 s4 s5 s13 s22 s31 => 
(k [s0, (.int .i32 (-1)), (.int .i64 0), s4, s5, s13, s22, s31] H : R))
noncomputable def r56_7 (k : KT R) : KT R := fun fr H => opn 8 fr (fun s0 s2 s3 s4 s5 s13 s22 s31 => 
(qLss X 21 s5 (.int .i32 56320) fun v27 =>
qG v27 false (fun k => k s5 H) H fun v29 H =>
qG v27 false (fun k => qGeq X 21 v29 (.int .i32 57344) fun v => k v H) H fun v30 H =>
qPick v27 (.bool true) v30 fun v31 =>
k [s0, s2, s3, s4, s5, s13, s22, v31] H : R))
noncomputable def r56_6 (C : CallF) (k : KT R) : KT R := fun fr H => opn 8 fr (fun s0 s2 s3 s4 s5 s13 s22 s31 => 
(qSlc Tryd.t9.desc 0 s0 (some (.int .i64 6)) none none fun v24 =>
qRes (C 81 [v24] H) fun v25 H =>
k [s0, s2, s3, s4, v25, s13, s22, s31] H : R))
noncomputable def r56_5 (k : KT R) : KT R := fun fr H => opn 8 fr (fun s0 s2 s3 s4 s5 s13 s22 s31 => 
(k [s0, (.int .i32 (-1)), (.int .i64 0), s4, s5, s13, s22, s31] H : R))
noncomputable def r56_4 (C : CallF) (k : KT R) : KT R := fun fr H => opn 8 fr (fun s0 s2 s3 s4 s5 s13 s22 s31 => 
(qGeq X 21 s4 (.int .i32 56320) fun v16 =>
qG v16 false (fun k => k s0 H) H fun v18 H =>
qG v16 false (fun k => qSlc Tryd.t9.desc 0 v18 (some (.int .i64 4)) none none fun v => k v H) H fun v19 H =>
qG v16 false (fun k => qRes (C 82 [v19, (.str [92,117])] H) k) H fun v20 H =>
qG v16 false (fun k => qNot v20 fun v => k v H) H fun v21 H =>
qPick v16 (.bool true) v21 fun v22 =>
k [s0, s2, s3, s4, s5, s13, v22, s31] H : R))
noncomputable def r56_3 (k : KT R) : KT R := fun fr H => opn 8 fr (fun s0 s2 s3 s4 s5 s13 s22 s31 => 
(k [s0, s4, (.int .i64 4), s4, s5, s13, s22, s31] H : R))
noncomputable def r56_2 (k : KT R) : KT R := fun fr H => opn 8 fr (fun s0 s2 s3 s4 s5 s13 s22 s31 => 
(qLss X 21 s4 (.int .i32 55296) fun v9 =>
qG v9 false (fun k => k s4 H) H fun v11 H =>
qG v9 false (fun k => qGeq X 21 v11 (.int .i32 57344) fun v => k v H) H fun v12 H =>
qPick v9 (.bool true) v12 fun v13 =>
k [s0, s2, s3, s4, s5, v13, s22, s31] H : R))
noncomputable def r56_1 (C : CallF) (k : KT R) : KT R := fun fr H => opn 8 fr (fun s0 s2 s3 s4 s5 s13 s22 s31 => 
(qRes (C 81 [s0] H) fun v7 H =>
k [s0, s2, s3, v7, s5, s13, s22, s31] H : R))
noncomputable def r56_0 (k : KT R) : KT R := fun fr H => opn 8 fr (fun s0 s2 s3 s4 s5 s13 s22 s31 => 
(k [s0, (.int .i32 0), (.int .i64 0), s4, s5, s13, s22, s31] H : R))
noncomputable def c56 (C : CallF) (l0 : List AV) (H : AH) (k : AV → AH → R) : R := opn 1 l0 (fun x0 => (qFn (fun kr => (r56_0 (r56_1 C (r56_2 (qCd (sel 5) (fun _ => (r56_3 kr)) (fun k3 => k3) (r56_4 C (qCd (sel 6) (fun _ => (r56_5 kr)) (fun k2 => k2) (r56_6 C (r56_7 (qCd (sel 7) (fun _ => (r56_8 kr)) (fun k1 => k1) (r56_9 kr)))))))))))
(fun fr H => k (.tup [(sel 1 fr), (sel 2 fr)]) H) [x0, Aes.undef, Aes.undef, Aes.undef, Aes.undef, Aes.undef, Aes.undef, Aes.undef] H : R))
/- refectory/refectoryref01.rune1 -/
noncomputable def r58_22 (k : KT R) : KT R := fun fr H => opn 16 fr (fun s0 s1 s4 s5 s6 s7 s8 s9 s14 s18 s27 s36 s50 s53 s62 s98 => 
(k [s0, s1, s8, s7, s6, s7, s8, s9, s14, s18, s27, s36, s50, s53, s62, s98] H : R))
noncomputable def r58_21 (k : KT R) : KT R := fun fr H => opn 16 fr (fun s0 s1 s4 s5 s6 s7 s8 s9 s14 s18 s27 s36 s50 s53 s62 s98 => 
(k [s0, s1, (.int .i64 0), (.int .i64 0), s6, s7, s8, s9, s14, s18, s27, s36, s50, s53, s62, s98] H : R))
noncomputable def r58_20 (k : KT R) : KT R := fun fr H => opn 16 fr (fun s0 s1 s4 s5 s6 s7 s8 s9 s14 s18 s27 s36 s50 s53 s62 s98 => 
(qEql X 3 s7 (.int .i64 3) fun v74 =>
qG v74 true (fun k => k s8 H) H fun v76 H =>
qG v74 true (fun k => qLss X 3 v76 (.int .i64 2048) fun v => k v H) H fun v77 H =>
qPick v74 v77 (.bool false) fun v78 =>
qG v78 false (fun k => k s7 H) H fun v80 H =>
qG v78 false (fun k => qEql X 3 v80 (.int .i64 4) fun v => k v H) H fun v81 H =>
qG v78 false (fun k => k v81 H) H fun v82 H =>
qG v82 true (fun k => k s8 H) H fun v83 H =>
qG v82 true (fun k => qLss X 3 v83 (.int .i64 65536) fun v => k v H) H fun v84 H =>
qG v82 true (fun k => k v84 H) H fun v85 H =>
qG v85 false (fun k => k s8 H) H fun v86 H =>
qG v85 false (fun k => qGtr X 3 v86 (.int .i64 1114111) fun v => k v H) H fun v87 H =>
qG v82 true (fun k => qPick v85 (.bool true) v87 fun v => k v H) H fun v88 H =>
qG v78 false (fun k => qPick v82 v88 (.bool false) fun v => k v H) H fun v89 H =>
qPick v78 (.bool true) v89 fun v90 =>
qG v90 false (fun k => k s8 H) H fun v92 H =>
qG v90 false (fun k => qGeq X 3 v92 (.int .i64 55296) fun v => k v H) H fun v93 H =>
qG v90 false (fun k => k v93 H) H fun v94 H =>
qG v94 true (fun k => k s8 H) H fun v95 H =>
qG v94 true (fun k => qLeq X 3 v95 (.int .i64 57343) fun v => k v H) H fun v96 H =>
qG v90 false (fun k => qPick v94 v96 (.bool false) fun v => k v H) H fun v97 H =>
qPick v90 (.bool true) v97 fun v98 =>
k [s0, s1, s4, s5, s6, s7, s8, s9, s14, s18, s27, s36, s50, s53, s62, v98] H : R))
noncomputable def r58_16 (k : KT R) : KT R := fun fr H => opn 16 fr (fun s0 s1 s4 s5 s6 s7 s8 s9 s14 s18 s27 s36 s50 s53 s62 s98 => 
(qAdd X 3 s9 (.int .i64 1) fun v55 =>
k [s0, s1, s4, s5, s6, s7, s8, v55, s14, s18, s27, s36, s50, s53, s62, s98] H : R))
noncomputable def r58_19 (k : KT R) : KT R := fun fr H => opn 16 fr (fun s0 s1 s4 s5 s6 s7 s8 s9 s14 s18 s27 s36 s50 s53 s62 s98 => 
(qO (binop X .shl 3 s8 (.int .u64 6)) fun v64 =>
qAdd X 3 s1 s9 fun v68 =>
qIx s0 v68 fun v69 =>
qO (binop X .and 5 v69 (.int .u8 63)) fun v70 =>
qConvI .i64 v70 fun v71 =>
qO (binop X .or 3 v64 v71) fun v72 =>
k [s0, s1, s4, s5, s6, s7, v72, s9, s14, s18, s27, s36, s50, s53, s62, s98] H : R))
noncomputable def r58_18 (k : KT R) : KT R := fun fr H => opn 16 fr (fun s0 s1 s4 s5 s6 s7 s8 s9 s14 s18 s27 s36 s50 s53 s62 s98 => 
(k [s0, s1, (.int .i64 0), (.int .i64 0), s6, s7, s8, s9, s14, s18, s27, s36, s50, s53, s62, s98] H : R))
noncomputable def r58_17 (k : KT R) : KT R := fun fr H => opn 16 fr (fun s0 s1 s4 s5 s6 s7 s8 s9 s14 s18 s27 s36 s50 s53 s62 s98 => 
(qAdd X 3 s1 s9 fun v59 =>
qIx s0 v59 fun v60 =>
qO (binop X .and 5 v60 (.int .u8 192)) fun v61 =>
qNeq X 5 v61 (.int .u8 128) fun v62 =>
k [s0, s1, s4, s5, s6, s7, s8, s9, s14, s18, s27, s36, s50, s53, v62, s98] H : R))
noncomputable def r58_15 (k : KT R) : KT R := fun fr H => opn 16 fr (fun s0 s1 s4 s5 s6 s7 s8 s9 s14 s18 s27 s36 s50 s53 s62 s98 => 
(qLss X 3 s9 s7 fun v53 =>
k [s0, s1, s4, s5, s6, s7, s8, s9, s14, s18, s27, s36, s50, v53, s62, s98] H : R))
noncomputable def l58_6 (k2 : KT R) (kr : KT R) : KT R → KT R := fun k3 => (r58_15 (qCd (sel 13) (fun k6 => k6) (fun _ => k2) (qBl (fun k4 => (r58_17 (qCd (sel 14) (fun _ => (r58_18 kr)) (fun k5 => k5) (r58_19 k4)))) (r58_16 k3))))
noncomputable def r58_14 (k : KT R) : KT R := fun fr H => opn 16 fr (fun s0 s1 s4 s5 s6 s7 s8 s9 s14 s18 s27 s36 s50 s53 s62 s98 => 
(k [s0, s1, s4, s5, s6, s7, s8, (.int .i64 1), s14, s18, s27, s36, s50, s53, s62, s98] H : R))
noncomputable def r58_13 (k : KT R) : KT R := fun fr H => opn 16 fr (fun s0 s1 s4 s5 s6 s7 s8 s9 s14 s18 s27 s36 s50 s53 s62 s98 => 
(k [s0, s1, (.int .i64 0), (.int .i64 0), s6, s7, s8, s9, s14, s18, s27, s36, s50, s53, s62, s98] H : R))
noncomputable def r58_12 (k : KT R) : KT R := fun fr H => opn 16 fr (fun s0 s1 s4 s5 s6 s7 s8 s9 s14 s18 s27 s36 s50 s53 s62 s98 => 
(qAdd X 3 s1 s7 fun v47 =>
qLenS s0 fun v49 =>
qGtr X 3 v47 v49 fun v50 =>
k [s0, s1, s4, s5, s6, s7, s8, s9, s14, s18, s27, s36, v50, s53, s62, s98] H : R))
noncomputable def r58_5 (k : KT R) : KT R := fun fr H => opn 16 fr (fun s0 s1 s4 s5 s6 s7 s8 s9 s14 s18 s27 s36 s50 s53 s62 s98 => 
(k [s0, s1, s6, (.int .i64 1), s6, s7, s8, s9, s14, s18, s27, s36, s50, s53, s62, s98] H : R))
noncomputable def r58_7 (k : KT R) : KT R := fun fr H => opn 16 fr (fun s0 s1 s4 s5 s6 s7 s8 s9 s14 s18 s27 s36 s50 s53 s62 s98 => 
(qO (binop X .and 3 s6 (.int .i64 31)) fun v26 =>
k [s0, s1, s4, s5, s6, (.int .i64 2), v26, s9, s14, s18, s27, s36, s50, s53, s62, s98] H : R))
noncomputable def r58_9 (k : KT R) : KT R := fun fr H => opn 16 fr (fun s0 s1 s4 s5 s6 s7 s8 s9 s14 s18 s27 s36 s50 s53 s62 s98 => 
(qO (binop X .and 3 s6 (.int .i64 15)) fun v35 =>
k [s0, s1, s4, s5, s6, (.int .i64 3), v35, s9, s14, s18, s27, s36, s50, s53, s62, s98] H : R))
noncomputable def r58_11 (k : KT R) : KT R := fun fr H => opn 16 fr (fun s0 s1 s4 s5 s6 s7 s8 s9 s14 s18 s27 s36 s50 s53 s62 s98 => 
(qO (binop X .and 3 s6 (.int .i64 7)) fun v44 =>
k [s0, s1, s4, s5, s6, (.int .i64 4), v44, s9, s14, s18, s27, s36, s50, s53, s62, s98] H : R))
noncomputable def r58_3 (k : KT R) : KT R := fun fr H => opn 16 fr (fun s0 s1 s4 s5 s6 s7 s8 s9 s14 s18 s27 s36 s50 s53 s62 s98 => 
(k [s0, s1, (.int .i64 0), (.int .i64 0), s6, s7, s8, s9, s14, s18, s27, s36, s50, s53, s62, s98] H : R))
noncomputable def r58_10 (k : KT R) : KT R := fun fr H => opn 16 fr (fun s0 s1 s4 s5 s6 s7 s8 s9 s14 s18 s27 s36 s50 s53 s62 s98 => 
(qGeq X 3 s6 (.int .i64 240) fun v38 =>
qG v38 true (fun k => k s6 H) H fun v40 H =>
qG v38 true (fun k => qLeq X 3 v40 (.int .i64 244) fun v => k v H) H fun v41 H =>
qPick v38 v41 (.bool false) fun v42 =>
k [s0, s1, s4, s5, s6, s7, s8, s9, s14, s18, s27, v42, s50, s53, s62, s98] H : R))
noncomputable def r58_8 (k : KT R) : KT R := fun fr H => opn 16 fr (fun s0 s1 s4 s5 s6 s7 s8 s9 s14 s18 s27 s36 s50 s53 s62 s98 => 
(qGeq X 3 s6 (.int .i64 224) fun v29 =>
qG v29 true (fun k => k s6 H) H fun v31 H =>
qG v29 true (fun k => qLeq X 3 v31 (.int .i64 239) fun v => k v H) H fun v32 H =>
qPick v29 v32 (.bool false) fun v33 =>
k [s0, s1, s4, s5, s6, s7, s8, s9, s14, s18, v33, s36, s50, s53, s62, s98] H : R))
noncomputable def r58_6 (k : KT R) : KT R := fun fr H => opn 16 fr (fun s0 s1 s4 s5 s6 s7 s8 s9 s14 s18 s27 s36 s50 s53 s62 s98 => 
(qGeq X 3 s6 (.int .i64 194) fun v20 =>
qG v20 true (fun k => k s6 H) H fun v22 H =>
qG v20 true (fun k => qLeq X 3 v22 (.int .i64 223) fun v => k v H) H fun v23 H =>
qPick v20 v23 (.bool false) fun v24 =>
k [s0, s1, s4, s5, s6, s7, s8, s9, s14, v24, s27, s36, s50, s53, s62, s98] H : R))
noncomputable def r58_4 (k : KT R) : KT R := fun fr H => opn 16 fr (fun s0 s1 s4 s5 s6 s7 s8 s9 s14 s18 s27 s36 s50 s53 s62 s98 => 
(qLss X 3 s6 (.int .i64 128) fun v16 =>
k [s0, s1, s4, s5, s6, s7, s8, s9, v16, s18, s27, s36, s50, s53, s62, s98] H : R))
noncomputable def r58_2 (k : KT R) : KT R := fun fr H => opn 16 fr (fun s0 s1 s4 s5 s6 s7 s8 s9 s14 s18 s27 s36 s50 s53 s62 s98 => 
(k [s0, s1, s4, s5, s6, (.int .i64 0), (.int .i64 0), s9, s14, s18, s27, s36, s50, s53, s62, s98] H : R))
noncomputable def r58_1 (k : KT R) : KT R := fun fr H => opn 16 fr (fun s0 s1 s4 s5 s6 s7 s8 s9 s14 s18 s27 s36 s50 s53 s62 s98 => 
(qIx s0 s1 fun v12 =>
qConvI .i64 v12 fun v13 =>
k [s0, s1, s4, s5, v13, s7, s8, s9, s14, s18, s27, s36, s50, s53, s62, s98] H : R))
noncomputable def r58_0 (k : KT R) : KT R := fun fr H => opn 16 fr (fun s0 s1 s4 s5 s6 s7 s8 s9 s14 s18 s27 s36 s50 s53 s62 s98 => 
(k [s0, s1, (.int .i64 0), (.int .i64 0), s6, s7, s8, s9, s14, s18, s27, s36, s50, s53, s62, s98] H : R))
noncomputable def c58 (C : CallF) (l0 : List AV) (H : AH) (k : AV → AH → R) : R := opn 2 l0 (fun x0 x1 => (qFn (fun kr => (r58_0 (r58_1 (r58_2 (qBl (fun k8 => (r58_4 (qCd (sel 8) (fun _ => (r58_5 kr)) (fun k9 => (r58_6 (qCd (sel 9) (fun k10 => (r58_7 k10)) (fun k10 => (r58_8 (qCd (sel 10) (fun k11 => (r58_9 k11)) (fun k11 => (r58_10 (qCd (sel 11) (fun k12 => (r58_11 k12)) (fun _ => (r58_3 kr)) k11))) k10))) k9))) k8))) (r58_12 (qCd (sel 12) (fun _ => (r58_13 kr)) (fun k7 => k7) (r58_14 (qBl (fun k2 => (qLoop (l58_6 k2 kr))) (r58_20 (qCd (sel 15) (fun _ => (r58_21 kr)) (fun k1 => k1) (r58_22 kr))))))))))))
(fun fr H => k (.tup [(sel 2 fr), (sel 3 fr)]) H) [x0, x1, Aes.undef, Aes.undef, Aes.undef, Aes.undef, Aes.undef, Aes.undef, Aes.undef, Aes.undef, Aes.undef, Aes.undef, Aes.undef, Aes.undef, Aes.undef, Aes.undef] H : R))
/- refectory/refectoryref01.Letter -/
noncomputable def r59_1 (k : KT R) : KT R := fun fr H => opn 2 fr (fun s0 s2 => 
(qGeq X 5 s0 (.int .u8 97) fun v4 =>
qG v4 true (fun k => k s0 H) H fun v6 H =>
qG v4 true (fun k => qLeq X 5 v6 (.int .u8 122) fun v => k v H) H fun v7 H =>
qPick v4 v7 (.bool false) fun v8 =>
qG v8 false (fun k => k s0 H) H fun v10 H =>
qG v8 false (fun k => qGeq X 5 v10 (.int .u8 65) fun v => k v H) H fun v11 H =>
qG v8 false (fun k => k v11 H) H fun v12 H =>
qG v12 true (fun k => k s0 H) H fun v13 H =>
qG v12 true (fun k => qLeq X 5 v13 (.int .u8 90) fun v => k v H) H fun v14 H =>
qG v8 false (fun k => qPick v12 v14 (.bool false) fun v => k v H) H fun v15 H =>
qPick v8 (.bool true) v15 fun v16 =>
qG v16 false (fun k => k s0 H) H fun v18 H =>
qG v16 false (fun k => qEql X 5 v18 (.int .u8 95) fun v => k v H) H fun v19 H =>
qPick v16 (.bool true) v19 fun v20 =>
k [s0, v20] H : R))
noncomputable def r59_0 (k : KT R) : KT R := fun fr H => opn 2 fr (fun s0 s2 => 
(k [s0, (.bool false)] H : R))
noncomputable def c59 (C : CallF) (l0 : List AV) (H : AH) (k : AV → AH → R) : R := opn 1 l0 (fun x0 => (qFn (fun kr => (r59_0 (r59_1 kr)))
(fun fr H => k (sel 1 fr) H) [x0, Aes.undef] H : R))
/- refectory/refectoryref01.Digit -/
noncomputable def r60_1 (k : KT R) : KT R := fun fr H => opn 2 fr (fun s0 s2 => 
(qGeq X 5 s0 (.int .u8 48) fun v4 =>
qG v4 true (fun k => k s0 H) H fun v6 H =>
qG v4 true (fun k => qLeq X 5 v6 (.int .u8 57) fun v => k v H) H fun v7 H =>
qPick v4 v7 (.bool false) fun v8 =>
k [s0, v8] H : R))
noncomputable def r60_0 (k : KT R) : KT R := fun fr H => opn 2 fr (fun s0 s2 => 
(k [s0, (.bool false)] H : R))
noncomputable def c60 (C : CallF) (l0 : List AV) (H : AH) (k : AV → AH → R) : R := opn 1 l0 (fun x0 => (qFn (fun kr => (r60_0 (r60_1 kr)))
(fun fr H => k (sel 1 fr) H) [x0, Aes.undef] H : R))
/- refectory/refectoryref01.escape -/
noncomputable def r61_12 (k : KT R) : KT R := fun fr H => opn 8 fr (fun s0 s2 s3 s4 s6 s8 s10 s12 => 
(k [s0, (.int .u8 0), s3, s4, s6, s8, s10, s12] H : R))
noncomputable def r61_3 (k : KT R) : KT R := fun fr H => opn 8 fr (fun s0 s2 s3 s4 s6 s8 s10 s12 => 
(k [s0, (.int .u8 98), s3, s4, s6, s8, s10, s12] H : R))
noncomputable def r61_5 (k : KT R) : KT R := fun fr H => opn 8 fr (fun s0 s2 s3 s4 s6 s8 s10 s12 => 
(k [s0, (.int .u8 116), s3, s4, s6, s8, s10, s12] H : R))
noncomputable def r61_7 (k : KT R) : KT R := fun fr H => opn 8 fr (fun s0 s2 s3 s4 s6 s8 s10 s12 => 
(k [s0, (.int .u8 110), s3, s4, s6, s8, s10, s12] H : R))
noncomputable def r61_9 (k : KT R) : KT R := fun fr H => opn 8 fr (fun s0 s2 s3 s4 s6 s8 s10 s12 => 
(k [s0, (.int .u8 102), s3, s4, s6, s8, s10, s12] H : R))
noncomputable def r61_11 (k : KT R) : KT R := fun fr H => opn 8 fr (fun s0 s2 s3 s4 s6 s8 s10 s12 => 
(k [s0, (.int .u8 114), s3, s4, s6, s8, s10, s12] H : R))
noncomputable def r61_10 (k : KT R) : KT R := fun fr H => opn 8 fr (fun s0 s2 s3 s4 s6 s8 s10 s12 => 
(qEql X 5 s3 (.int .u8 13) fun v13 =>
k [s0, s2, s3, s4, s6, s8, s10, v13] H : R))
noncomputable def r61_8 (k : KT R) : KT R := fun fr H => opn 8 fr (fun s0 s2 s3 s4 s6 s8 s10 s12 => 
(qEql X 5 s3 (.int .u8 12) fun v11 =>
k [s0, s2, s3, s4, s6, s8, v11, s12] H : R))
noncomputable def r61_6 (k : KT R) : KT R := fun fr H => opn 8 fr (fun s0 s2 s3 s4 s6 s8 s10 s12 => 
(qEql X 5 s3 (.int .u8 10) fun v9 =>
k [s0, s2, s3, s4, s6, v9, s10, s12] H : R))
noncomputable def r61_4 (k : KT R) : KT R := fun fr H => opn 8 fr (fun s0 s2 s3 s4 s6 s8 s10 s12 => 
(qEql X 5 s3 (.int .u8 9) fun v7 =>
k [s0, s2, s3, s4, v7, s8, s10, s12] H : R))
noncomputable def r61_2 (k : KT R) : KT R := fun fr H => opn 8 fr (fun s0 s2 s3 s4 s6 s8 s10 s12 => 
(qEql X 5 s3 (.int .u8 8) fun v5 =>
k [s0, s2, s3, v5, s6, s8, s10, s12] H : R))
noncomputable def r61_1 (k : KT R) : KT R := fun fr H => opn 8 fr (fun s0 s2 s3 s4 s6 s8 s10 s12 => 
(k [s0, s2, s0, s4, s6, s8, s10, s12] H : R))
noncomputable def r61_0 (k : KT R) : KT R := fun fr H => opn 8 fr (fun s0 s2 s3 s4 s6 s8 s10 s12 => 
(k [s0, (.int .u8 0), s3, s4, s6, s8, s10, s12] H : R))
noncomputable def c61 (C : CallF) (l0 : List AV) (H : AH) (k : AV → AH → R) : R := opn 1 l0 (fun x0 => (qFn (fun kr => (r61_0 (r61_1 (qBl (fun k1 => (r61_2 (qCd (sel 3) (fun _ => (r61_3 kr)) (fun k2 => (r61_4 (qCd (sel 4) (fun _ => (r61_5 kr)) (fun k3 => (r61_6 (qCd (sel 5) (fun _ => (r61_7 kr)) (fun k4 => (r61_8 (qCd (sel 6) (fun _ => (r61_9 kr)) (fun k5 => (r61_10 (qCd (sel 7) (fun _ => (r61_11 kr)) (fun k6 => k6) k5))) k4))) k3))) k2))) k1))) (r61_12 kr)))))
(fun fr H => k (sel 1 fr) H) [x0, Aes.undef, Aes.undef, Aes.undef, Aes.undef, Aes.undef, Aes.undef, Aes.undef] H : R))
/- refectory/runes.indent -/
noncomputable def r64_1 (C : CallF) (k : KT R) : KT R := fun fr H => opn 2 fr (fun s0 s2 => 
(qLenS s0 fun v4 =>
qRes (C 70 [s0, (.str [32,9])] H) fun v6 H =>
qLenS v6 fun v7 =>
qSub X 3 v4 v7 fun v8 =>
k [s0, v8] H : R))
noncomputable def r64_0 (k : KT R) : KT R := fun fr H => opn 2 fr (fun s0 s2 => 
(k [s0, (.int .i64 0)] H : R))
noncomputable def c64 (C : CallF) (l0 : List AV) (H : AH) (k : AV → AH → R) : R := opn 1 l0 (fun x0 => (qFn (fun kr => (r64_0 (r64_1 C kr)))
(fun fr H => k (sel 1 fr) H) [x0, Aes.undef] H : R))
/- refectory/runes.Block$1 -/
noncomputable def r65_1 (C : CallF) (k : KT R) : KT R := fun fr H => opn 2 fr (fun s0 s2 => 
(qRes (C 64 [s0] H) fun v4 H =>
qLenS s0 fun v6 =>
qEql X 3 v4 v6 fun v7 =>
k [s0, v7] H : R))
noncomputable def r65_0 (k : KT R) : KT R := fun fr H => opn 2 fr (fun s0 s2 => 
(k [s0, (.bool false)] H : R))
noncomputable def c65 (C : CallF) (l0 : List AV) (H : AH) (k : AV → AH → R) : R := opn 1 l0 (fun x0 => (qFn (fun kr => (r65_0 (r65_1 C kr)))
(fun fr H => k (sel 1 fr) H) [x0, Aes.undef] H : R))
/- refectory/refectoryref01.lines -/
noncomputable def r67_11 (k : KT R) : KT R := fun fr H => opn 8 fr (fun s0 s2 s3 s4 s5 s9 s21 s46 => 
(qSlc Tryd.t9.desc 0 s0 (some s4) none none fun v54 =>
qRows z9 1 [(0, v54)] fun v55 =>
qApp 1 16 s3 v55 true none H fun v56 H =>
k [s0, v56, s3, s4, s5, s9, s21, s46] H : R))
noncomputable def r67_5 (k : KT R) : KT R := fun fr H => opn 8 fr (fun s0 s2 s3 s4 s5 s9 s21 s46 => 
(qAdd X 3 s5 (.int .i64 1) fun v11 =>
k [s0, s2, s3, s4, v11, s9, s21, s46] H : R))
noncomputable def r67_10 (k : KT R) : KT R := fun fr H => opn 8 fr (fun s0 s2 s3 s4 s5 s9 s21 s46 => 
(qAdd X 3 s5 (.int .i64 1) fun v50 =>
k [s0, s2, s3, v50, s5, s9, s21, s46] H : R))
noncomputable def r67_9 (k : KT R) : KT R := fun fr H => opn 8 fr (fun s0 s2 s3 s4 s5 s9 s21 s46 => 
(qAdd X 3 s5 (.int .i64 1) fun v48 =>
k [s0, s2, s3, s4, v48, s9, s21, s46] H : R))
noncomputable def r67_8 (k : KT R) : KT R := fun fr H => opn 8 fr (fun s0 s2 s3 s4 s5 s9 s21 s46 => 
(qIx s0 s5 fun v31 =>
qEql X 5 v31 (.int .u8 13) fun v32 =>
qG v32 true (fun k => k s5 H) H fun v34 H =>
qG v32 true (fun k => qAdd X 3 v34 (.int .i64 1) fun v => k v H) H fun v35 H =>
qG v32 true (fun k => k s0 H) H fun v36 H =>
qG v32 true (fun k => qLenS v36 fun v => k v H) H fun v37 H =>
qG v32 true (fun k => qLss X 3 v35 v37 fun v => k v H) H fun v38 H =>
qPick v32 v38 (.bool false) fun v39 =>
qG v39 true (fun k => k s0 H) H fun v41 H =>
qG v39 true (fun k => k s5 H) H fun v42 H =>
qG v39 true (fun k => qAdd X 3 v42 (.int .i64 1) fun v => k v H) H fun v43 H =>
qG v39 true (fun k => qIx v41 v43 fun v => k v H) H fun v44 H =>
qG v39 true (fun k => qEql X 5 v44 (.int .u8 10) fun v => k v H) H fun v45 H =>
qPick v39 v45 (.bool false) fun v46 =>
k [s0, s2, s3, s4, s5, s9, s21, v46] H : R))
noncomputable def r67_7 (k : KT R) : KT R := fun fr H => opn 8 fr (fun s0 s2 s3 s4 s5 s9 s21 s46 => 
(qSlc Tryd.t9.desc 0 s0 (some s4) (some s5) none fun v26 =>
qRows z9 1 [(0, v26)] fun v27 =>
qApp 1 16 s3 v27 true none H fun v28 H =>
k [s0, s2, v28, s4, s5, s9, s21, s46] H : R))
noncomputable def r67_6 (k : KT R) : KT R := fun fr H => opn 8 fr (fun s0 s2 s3 s4 s5 s9 s21 s46 => 
(qIx s0 s5 fun v14 =>
qNeq X 5 v14 (.int .u8 10) fun v15 =>
qG v15 true (fun k => k s0 H) H fun v17 H =>
qG v15 true (fun k => k s5 H) H fun v18 H =>
qG v15 true (fun k => qIx v17 v18 fun v => k v H) H fun v19 H =>
qG v15 true (fun k => qNeq X 5 v19 (.int .u8 13) fun v => k v H) H fun v20 H =>
qPick v15 v20 (.bool false) fun v21 =>
k [s0, s2, s3, s4, s5, s9, v21, s46] H : R))
noncomputable def r67_4 (k : KT R) : KT R := fun fr H => opn 8 fr (fun s0 s2 s3 s4 s5 s9 s21 s46 => 
(qLenS s0 fun v8 =>
qLss X 3 s5 v8 fun v9 =>
k [s0, s2, s3, s4, s5, v9, s21, s46] H : R))
noncomputable def l67_6 (k1 : KT R) : KT R → KT R := fun k2 => (r67_4 (qCd (sel 5) (fun k6 => k6) (fun _ => k1) (qBl (fun k3 => (r67_6 (qCd (sel 6) (fun _ => k3) (fun k5 => k5) (r67_7 (r67_8 (qCd (sel 7) (fun k4 => (r67_9 k4)) (fun k4 => k4) (r67_10 k3))))))) (r67_5 k2))))
noncomputable def r67_3 (k : KT R) : KT R := fun fr H => opn 8 fr (fun s0 s2 s3 s4 s5 s9 s21 s46 => 
(k [s0, s2, s3, s4, (.int .i64 0), s9, s21, s46] H : R))
noncomputable def r67_2 (k : KT R) : KT R := fun fr H => opn 8 fr (fun s0 s2 s3 s4 s5 s9 s21 s46 => 
(k [s0, s2, s3, (.int .i64 0), s5, s9, s21, s46] H : R))
noncomputable def r67_1 (k : KT R) : KT R := fun fr H => opn 8 fr (fun s0 s2 s3 s4 s5 s9 s21 s46 => 
(k [s0, s2, (.sl [] .nil), s4, s5, s9, s21, s46] H : R))
noncomputable def r67_0 (k : KT R) : KT R := fun fr H => opn 8 fr (fun s0 s2 s3 s4 s5 s9 s21 s46 => 
(k [s0, (.sl [] .nil), s3, s4, s5, s9, s21, s46] H : R))
noncomputable def c67 (C : CallF) (l0 : List AV) (H : AH) (k : AV → AH → R) : R := opn 1 l0 (fun x0 => (qFn (fun kr => (r67_0 (r67_1 (r67_2 (r67_3 (qBl (fun k1 => (qLoop (l67_6 k1))) (r67_11 kr)))))))
(fun fr H => k (sel 1 fr) H) [x0, Aes.undef, Aes.undef, Aes.undef, Aes.undef, Aes.undef, Aes.undef, Aes.undef] H : R))
/- refectory/refectoryref01.blank -/
noncomputable def r68_4 (k : KT R) : KT R := fun fr H => opn 4 fr (fun s0 s2 s3 s19 => 
(k [s0, s3, s3, s19] H : R))
noncomputable def r68_3 (k : KT R) : KT R := fun fr H => opn 4 fr (fun s0 s2 s3 s19 => 
(qAdd X 3 s3 (.int .i64 1) fun v21 =>
k [s0, s2, v21, s19] H : R))
noncomputable def r68_2 (k : KT R) : KT R := fun fr H => opn 4 fr (fun s0 s2 s3 s19 => 
(qLenS s0 fun v6 =>
qLss X 3 s3 v6 fun v7 =>
qG v7 true (fun k => k s0 H) H fun v9 H =>
qG v7 true (fun k => k s3 H) H fun v10 H =>
qG v7 true (fun k => qIx v9 v10 fun v => k v H) H fun v11 H =>
qG v7 true (fun k => qEql X 5 v11 (.int .u8 32) fun v => k v H) H fun v12 H =>
qG v7 true (fun k => k v12 H) H fun v13 H =>
qG v13 false (fun k => k s0 H) H fun v14 H =>
qG v13 false (fun k => k s3 H) H fun v15 H =>
qG v13 false (fun k => qIx v14 v15 fun v => k v H) H fun v16 H =>
qG v13 false (fun k => qEql X 5 v16 (.int .u8 9) fun v => k v H) H fun v17 H =>
qG v7 true (fun k => qPick v13 (.bool true) v17 fun v => k v H) H fun v18 H =>
qPick v7 v18 (.bool false) fun v19 =>
k [s0, s2, s3, v19] H : R))
noncomputable def l68_4 (k1 : KT R) : KT R → KT R := fun k2 => (r68_2 (qCd (sel 3) (fun k4 => k4) (fun _ => k1) (qBl (fun k3 => (r68_3 k3)) k2)))
noncomputable def r68_1 (k : KT R) : KT R := fun fr H => opn 4 fr (fun s0 s2 s3 s19 => 
(k [s0, s2, (.int .i64 0), s19] H : R))
noncomputable def r68_0 (k : KT R) : KT R := fun fr H => opn 4 fr (fun s0 s2 s3 s19 => 
(k [s0, (.int .i64 0), s3, s19] H : R))
noncomputable def c68 (C : CallF) (l0 : List AV) (H : AH) (k : AV → AH → R) : R := opn 1 l0 (fun x0 => (qFn (fun kr => (r68_0 (r68_1 (qBl (fun k1 => (qLoop (l68_4 k1))) (r68_4 kr)))))
(fun fr H => k (sel 1 fr) H) [x0, Aes.undef, Aes.undef, Aes.undef] H : R))
/- internal/stringslite.TrimPrefix -/
noncomputable def r69_3 (k : KT R) : KT R := fun fr H => opn 4 fr (fun s0 s1 s4 s7 => 
(k [s0, s1, s0, s7] H : R))
noncomputable def r69_2 (k : KT R) : KT R := fun fr H => opn 4 fr (fun s0 s1 s4 s7 => 
(qLenS s1 fun v10 =>
qSlc Tryd.t9.desc 0 s0 (some v10) none none fun v11 =>
k [s0, s1, v11, s7] H : R))
noncomputable def r69_1 (C : CallF) (k : KT R) : KT R := fun fr H => opn 4 fr (fun s0 s1 s4 s7 => 
(qRes (C 88 [s0, s1] H) fun v7 H =>
k [s0, s1, s4, v7] H : R))
noncomputable def r69_0 (k : KT R) : KT R := fun fr H => opn 4 fr (fun s0 s1 s4 s7 => 
(k [s0, s1, (.str []), s7] H : R))
noncomputable def c69 (C : CallF) (l0 : List AV) (H : AH) (k : AV → AH → R) : R := opn 2 l0 (fun x0 x1 => (qFn (fun kr => (r69_0 (r69_1 C (qCd (sel 3) (fun _ => (r69_2 kr)) (fun k1 => k1) (r69_3 kr)))))
(fun fr H => k (sel 2 fr) H) [x0, x1, Aes.undef, Aes.undef] H : R))
/- strings.TrimLeft -/
noncomputable def r70_8 (C : CallF) (k : KT R) : KT R := fun fr H => opn 8 fr (fun s0 s1 s4 s5 s6 s12 s21 s31 => 
(qRes (C 92 [s0, s1] H) fun v36 H =>
k [s0, s1, v36, s5, s6, s12, s21, s31] H : R))
noncomputable def r70_7 (C : CallF) (k : KT R) : KT R := fun fr H => opn 8 fr (fun s0 s1 s4 s5 s6 s12 s21 s31 => 
(qRes (C 91 [s0, s5] H) fun v33 H =>
k [s0, s1, v33, s5, s6, s12, s21, s31] H : R))
noncomputable def r70_6 (k : KT R) : KT R := fun fr H => opn 8 fr (fun s0 s1 s4 s5 s6 s12 s21 s31 => 
(k [s0, s1, s4, s5, s6, s12, s21, s6] H : R))
noncomputable def r70_5 (C : CallF) (k : KT R) : KT R := fun fr H => opn 8 fr (fun s0 s1 s4 s5 s6 s12 s21 s31 => 
(qRes (C 90 [s1] H) fun v28 H =>
qExt v28 0 fun v29 =>
qExt v28 1 fun v30 =>
qNew (.cells z106) .ptr H fun v5 H =>
qSt 256 v5 v29 H fun _ H =>
k [s0, s1, s4, v5, v30, s12, s21, s31] H : R))
noncomputable def r70_4 (C : CallF) (k : KT R) : KT R := fun fr H => opn 8 fr (fun s0 s1 s4 s5 s6 s12 s21 s31 => 
(qIx s1 (.int .i64 0) fun v24 =>
qRes (C 89 [s0, v24] H) fun v25 H =>
k [s0, s1, v25, s5, s6, s12, s21, s31] H : R))
noncomputable def r70_3 (k : KT R) : KT R := fun fr H => opn 8 fr (fun s0 s1 s4 s5 s6 s12 s21 s31 => 
(qLenS s1 fun v15 =>
qEql X 3 v15 (.int .i64 1) fun v16 =>
qG v16 true (fun k => k s1 H) H fun v18 H =>
qG v16 true (fun k => qIx v18 (.int .i64 0) fun v => k v H) H fun v19 H =>
qG v16 true (fun k => qLss X 5 v19 (.int .u8 128) fun v => k v H) H fun v20 H =>
qPick v16 v20 (.bool false) fun v21 =>
k [s0, s1, s4, s5, s6, s12, v21, s31] H : R))
noncomputable def r70_2 (k : KT R) : KT R := fun fr H => opn 8 fr (fun s0 s1 s4 s5 s6 s12 s21 s31 => 
(k [s0, s1, s0, s5, s6, s12, s21, s31] H : R))
noncomputable def r70_1 (k : KT R) : KT R := fun fr H => opn 8 fr (fun s0 s1 s4 s5 s6 s12 s21 s31 => 
(qEql X 9 s0 (.str []) fun v8 =>
qG v8 false (fun k => k s1 H) H fun v10 H =>
qG v8 false (fun k => qEql X 9 v10 (.str []) fun v => k v H) H fun v11 H =>
qPick v8 (.bool true) v11 fun v12 =>
k [s0, s1, s4, s5, s6, v12, s21, s31] H : R))
noncomputable def r70_0 (k : KT R) : KT R := fun fr H => opn 8 fr (fun s0 s1 s4 s5 s6 s12 s21 s31 => 
(k [s0, s1, (.str []), s5, s6, s12, s21, s31] H : R))
noncomputable def c70 (C : CallF) (l0 : List AV) (H : AH) (k : AV → AH → R) : R := opn 2 l0 (fun x0 x1 => (qFn (fun kr => (r70_0 (r70_1 (qCd (sel 5) (fun _ => (r70_2 kr)) (fun k3 => k3) (r70_3 (qCd (sel 6) (fun _ => (r70_4 C kr)) (fun k2 => k2) (r70_5 C (r70_6 (qCd (sel 7) (fun _ => (r70_7 C kr)) (fun k1 => k1) (r70_8 C kr))))))))))
(fun fr H => k (sel 2 fr) H) [x0, x1, Aes.undef, Aes.undef, Aes.undef, Aes.undef, Aes.undef, Aes.undef] H : R))
/- internal/stringslite.CutPrefix -/
noncomputable def r71_3 (k : KT R) : KT R := fun fr H => opn 5 fr (fun s0 s1 s4 s5 s9 => 
(qLenS s1 fun v13 =>
qSlc Tryd.t9.desc 0 s0 (some v13) none none fun v14 =>
k [s0, s1, v14, (.bool true), s9] H : R))
noncomputable def r71_2 (k : KT R) : KT R := fun fr H => opn 5 fr (fun s0 s1 s4 s5 s9 => 
(k [s0, s1, s0, (.bool false), s9] H : R))
noncomputable def r71_1 (C : CallF) (k : KT R) : KT R := fun fr H => opn 5 fr (fun s0 s1 s4 s5 s9 => 
(qRes (C 88 [s0, s1] H) fun v8 H =>
qNot v8 fun v9 =>
k [s0, s1, s4, s5, v9] H : R))
noncomputable def r71_0 (k : KT R) : KT R := fun fr H => opn 5 fr (fun s0 s1 s4 s5 s9 => 
(k [s0, s1, (.str []), (.bool false), s9] H : R))
noncomputable def c71 (C : CallF) (l0 : List AV) (H : AH) (k : AV → AH → R) : R := opn 2 l0 (fun x0 x1 => (qFn (fun kr => (r71_0 (r71_1 C (qCd (sel 4) (fun _ => (r71_2 kr)) (fun k1 => k1) (r71_3 kr)))))
(fun fr H => k (.tup [(sel 2 fr), (sel 3 fr)]) H) [x0, x1, Aes.undef, Aes.undef, Aes.undef] H : R))
/- internal/stringslite.IndexByte -/
noncomputable def r72_1 (C : CallF) (k : KT R) : KT R := fun fr H => opn 3 fr (fun s0 s1 s4 => 
(qRes (C 93 [s0, s1] H) fun v7 H =>
k [s0, s1, v7] H : R))
noncomputable def r72_0 (k : KT R) : KT R := fun fr H => opn 3 fr (fun s0 s1 s4 => 
(k [s0, s1, (.int .i64 0)] H : R))
noncomputable def c72 (C : CallF) (l0 : List AV) (H : AH) (k : AV → AH → R) : R := opn 2 l0 (fun x0 x1 => (qFn (fun kr => (r72_0 (r72_1 C kr)))
(fun fr H => k (sel 2 fr) H) [x0, x1, Aes.undef] H : R))
/- refectory/jval.names -/
noncomputable def r73_9 (k : KT R) : KT R := fun fr H => opn 9 fr (fun s0 s2 s3 s5 s7 s8 s9 s10 s20 => 
(k [s0, (.bool true), s3, s5, s7, s8, s9, s10, s20] H : R))
noncomputable def r73_8 (k : KT R) : KT R := fun fr H => opn 9 fr (fun s0 s2 s3 s5 s7 s8 s9 s10 s20 => 
(qAdd X 3 s9 (.int .i64 1) fun v23 =>
k [s0, s2, s3, s5, s7, s8, v23, s10, s20] H : R))
noncomputable def r73_7 (k : KT R) : KT R := fun fr H => opn 9 fr (fun s0 s2 s3 s5 s7 s8 s9 s10 s20 => 
(qMset X 111 s3 s5 (.bool true) H fun _ H =>
k [s0, s2, s3, s5, s7, s8, s9, s10, s20] H : R))
noncomputable def r73_6 (k : KT R) : KT R := fun fr H => opn 9 fr (fun s0 s2 s3 s5 s7 s8 s9 s10 s20 => 
(k [s0, (.bool false), s3, s5, s7, s8, s9, s10, s20] H : R))
noncomputable def r73_5 (C : CallF) (k : KT R) : KT R := fun fr H => opn 9 fr (fun s0 s2 s3 s5 s7 s8 s9 s10 s20 => 
(qO (lookup X 111 s3 s5 false H) fun v15 =>
qG v15 false (fun k => k s5 H) H fun v17 H =>
qG v15 false (fun k => qRes (C 30 [v17] H) k) H fun v18 H =>
qG v15 false (fun k => qNot v18 fun v => k v H) H fun v19 H =>
qPick v15 (.bool true) v19 fun v20 =>
k [s0, s2, s3, s5, s7, s8, s9, s10, v20] H : R))
noncomputable def r73_4 (k : KT R) : KT R := fun fr H => opn 9 fr (fun s0 s2 s3 s5 s7 s8 s9 s10 s20 => 
(qIa 1 s7 s9 fun v11 =>
qLd v11 H fun v12 =>
k [s0, s2, s3, v12, s7, s8, s9, s10, s20] H : R))
noncomputable def r73_3 (k : KT R) : KT R := fun fr H => opn 9 fr (fun s0 s2 s3 s5 s7 s8 s9 s10 s20 => 
(qLss X 3 s9 s8 fun v10 =>
k [s0, s2, s3, s5, s7, s8, s9, v10, s20] H : R))
noncomputable def l73_5 (C : CallF) (k1 : KT R) (kr : KT R) : KT R → KT R := fun k2 => (r73_3 (qCd (sel 7) (fun k5 => k5) (fun _ => k1) (qBl (fun k3 => (r73_4 (r73_5 C (qCd (sel 8) (fun _ => (r73_6 kr)) (fun k4 => k4) (r73_7 k3))))) (r73_8 k2))))
noncomputable def r73_2 (k : KT R) : KT R := fun fr H => opn 9 fr (fun s0 s2 s3 s5 s7 s8 s9 s10 s20 => 
(qLenL s0 fun v8 =>
k [s0, s2, s3, s5, s0, v8, (.int .i64 0), s10, s20] H : R))
noncomputable def r73_1 (k : KT R) : KT R := fun fr H => opn 9 fr (fun s0 s2 s3 s5 s7 s8 s9 s10 s20 => 
(qNew (.map []) .map H fun v6 H =>
k [s0, s2, v6, s5, s7, s8, s9, s10, s20] H : R))
noncomputable def r73_0 (k : KT R) : KT R := fun fr H => opn 9 fr (fun s0 s2 s3 s5 s7 s8 s9 s10 s20 => 
(k [s0, (.bool false), s3, s5, s7, s8, s9, s10, s20] H : R))
noncomputable def c73 (C : CallF) (l0 : List AV) (H : AH) (k : AV → AH → R) : R := opn 1 l0 (fun x0 => (qFn (fun kr => (r73_0 (r73_1 (r73_2 (qBl (fun k1 => (qLoop (l73_5 C k1 kr))) (r73_9 kr))))))
(fun fr H => k (sel 1 fr) H) [x0, Aes.undef, Aes.undef, Aes.undef, Aes.undef, Aes.undef, Aes.undef, Aes.undef, Aes.undef] H : R))
/- unicode/utf8.ValidRune -/
noncomputable def r76_5 (k : KT R) : KT R := fun fr H => opn 4 fr (fun s0 s2 s3 s10 => 
(k [s0, (.bool false), s3, s10] H : R))
noncomputable def r76_2 (k : KT R) : KT R := fun fr H => opn 4 fr (fun s0 s2 s3 s10 => 
(k [s0, (.bool true), s3, s10] H : R))
noncomputable def r76_4 (k : KT R) : KT R := fun fr H => opn 4 fr (fun s0 s2 s3 s10 => 
(k [s0, (.bool true), s3, s10] H : R))
noncomputable def r76_3 (k : KT R) : KT R := fun fr H => opn 4 fr (fun s0 s2 s3 s10 => 
(qLss X 21 (.int .i32 57343) s0 fun v12 =>
qG v12 true (fun k => k s0 H) H fun v14 H =>
qG v12 true (fun k => qLeq X 21 v14 (.int .i32 1114111) fun v => k v H) H fun v15 H =>
qPick v12 v15 (.bool false) fun v16 =>
k [s0, s2, s3, v16] H : R))
noncomputable def r76_1 (k : KT R) : KT R := fun fr H => opn 4 fr (fun s0 s2 s3 s10 => 
(qLeq X 21 (.int .i32 0) s0 fun v5 =>
qG v5 true (fun k => k s0 H) H fun v7 H =>
qG v5 true (fun k => qLss X 21 v7 (.int .i32 55296) fun v => k v H) H fun v8 H =>
qPick v5 v8 (.bool false) fun v9 =>
k [s0, s2, v9, s10] H : R))
noncomputable def r76_0 (k : KT R) : KT R := fun fr H => opn 4 fr (fun s0 s2 s3 s10 => 
(k [s0, (.bool false), s3, s10] H : R))
noncomputable def c76 (C : CallF) (l0 : List AV) (H : AH) (k : AV → AH → R) : R := opn 1 l0 (fun x0 => (qFn (fun kr => (r76_0 (qBl (fun k1 => (r76_1 (qCd (sel 2) (fun _ => (r76_2 kr)) (fun k2 => (r76_3 (qCd (sel 3) (fun _ => (r76_4 kr)) (fun k3 => k3) k2))) k1))) (r76_5 kr))))
(fun fr H => k (sel 1 fr) H) [x0, Aes.undef, Aes.undef, Aes.undef] H : R))
/- internal/bytealg.Cutover -/
noncomputable def r77_1 (k : KT R) : KT R := fun fr H => opn 2 fr (fun s0 s2 => 
(qAdd X 3 s0 (.int .i64 16) fun v4 =>
qQuo X 3 v4 (.int .i64 8) fun v5 =>
k [s0, v5] H : R))
noncomputable def r77_0 (k : KT R) : KT R := fun fr H => opn 2 fr (fun s0 s2 => 
(k [s0, (.int .i64 0)] H : R))
noncomputable def c77 (C : CallF) (l0 : List AV) (H : AH) (k : AV → AH → R) : R := opn 1 l0 (fun x0 => (qFn (fun kr => (r77_0 (r77_1 kr)))
(fun fr H => k (sel 1 fr) H) [x0, Aes.undef] H : R))
/- unicode/utf8.AppendRune -/
noncomputable def r79_3 (C : CallF) (k : KT R) : KT R := fun fr H => opn 4 fr (fun s0 s1 s4 s7 => 
(qRes (C 95 [s0, s1] H) fun v15 H =>
k [s0, s1, v15, s7] H : R))
noncomputable def r79_2 (k : KT R) : KT R := fun fr H => opn 4 fr (fun s0 s1 s4 s7 => 
(qConvI .u8 s1 fun v10 =>
qRows z5 1 [(0, v10)] fun v11 =>
qApp 1 1 s0 v11 true (some 5) H fun v12 H =>
k [s0, s1, v12, s7] H : R))
noncomputable def r79_1 (k : KT R) : KT R := fun fr H => opn 4 fr (fun s0 s1 s4 s7 => 
(qConvI .u32 s1 fun v6 =>
qLeq X 114 v6 (.int .u32 127) fun v7 =>
k [s0, s1, s4, v7] H : R))
noncomputable def r79_0 (k : KT R) : KT R := fun fr H => opn 4 fr (fun s0 s1 s4 s7 => 
(k [s0, s1, (.sl [] .nil), s7] H : R))
noncomputable def c79 (C : CallF) (l0 : List AV) (H : AH) (k : AV → AH → R) : R := opn 2 l0 (fun x0 x1 => (qFn (fun kr => (r79_0 (r79_1 (qCd (sel 3) (fun _ => (r79_2 kr)) (fun k1 => k1) (r79_3 C kr)))))
(fun fr H => k (sel 2 fr) H) [x0, x1, Aes.undef, Aes.undef] H : R))
/- refectory/runes.four -/
noncomputable def r81_11 (k : KT R) : KT R := fun fr H => opn 10 fr (fun s0 s2 s3 s5 s6 s9 s13 s14 s15 s20 => 
(k [s0, s3, s3, s5, s6, s9, s13, s14, s15, s20] H : R))
noncomputable def r81_10 (k : KT R) : KT R := fun fr H => opn 10 fr (fun s0 s2 s3 s5 s6 s9 s13 s14 s15 s20 => 
(qO (binop X .shl 21 s3 (.int .u64 4)) fun v22 =>
qConvI .i32 s6 fun v24 =>
qO (binop X .or 21 v22 v24) fun v25 =>
k [s0, s2, v25, s5, s6, s9, s13, s14, s15, s20] H : R))
noncomputable def r81_9 (k : KT R) : KT R := fun fr H => opn 10 fr (fun s0 s2 s3 s5 s6 s9 s13 s14 s15 s20 => 
(k [s0, (.int .i32 (-1)), s3, s5, s6, s9, s13, s14, s15, s20] H : R))
noncomputable def r81_8 (k : KT R) : KT R := fun fr H => opn 10 fr (fun s0 s2 s3 s5 s6 s9 s13 s14 s15 s20 => 
(qLss X 3 s6 (.int .i64 0) fun v20 =>
k [s0, s2, s3, s5, s6, s9, s13, s14, s15, v20] H : R))
noncomputable def r81_7 (C : CallF) (k : KT R) : KT R := fun fr H => opn 10 fr (fun s0 s2 s3 s5 s6 s9 s13 s14 s15 s20 => 
(qRes (C 52 [(.str [48,49,50,51,52,53,54,55,56,57,97,98,99,100,101,102]), s5] H) fun v18 H =>
k [s0, s2, s3, s5, v18, s9, s13, s14, s15, s20] H : R))
noncomputable def r81_6 (k : KT R) : KT R := fun fr H => opn 10 fr (fun s0 s2 s3 s5 s6 s9 s13 s14 s15 s20 => 
(qExt s14 2 fun v16 =>
k [s0, s2, s3, v16, s6, s9, s13, s14, s15, s20] H : R))
noncomputable def r81_5 (k : KT R) : KT R := fun fr H => opn 10 fr (fun s0 s2 s3 s5 s6 s9 s13 s14 s15 s20 => 
(qNext s13 H fun v14 H =>
qExt v14 0 fun v15 =>
k [s0, s2, s3, s5, s6, s9, s13, v14, v15, s20] H : R))
noncomputable def l81_5 (C : CallF) (k1 : KT R) (kr : KT R) : KT R → KT R := fun k2 => (r81_5 (qCd (sel 8) (fun k5 => k5) (fun _ => k1) (qBl (fun k3 => (r81_6 (r81_7 C (r81_8 (qCd (sel 9) (fun _ => (r81_9 kr)) (fun k4 => k4) (r81_10 k3)))))) k2)))
noncomputable def r81_4 (C : CallF) (k : KT R) : KT R := fun fr H => opn 10 fr (fun s0 s2 s3 s5 s6 s9 s13 s14 s15 s20 => 
(qSlc Tryd.t9.desc 0 s0 none (some (.int .i64 4)) none fun v11 =>
qRes (C 96 [v11] H) fun v12 H =>
qRange v12 H fun v13 H =>
k [s0, s2, s3, s5, s6, s9, v13, s14, s15, s20] H : R))
noncomputable def r81_3 (k : KT R) : KT R := fun fr H => opn 10 fr (fun s0 s2 s3 s5 s6 s9 s13 s14 s15 s20 => 
(k [s0, s2, (.int .i32 0), s5, s6, s9, s13, s14, s15, s20] H : R))
noncomputable def r81_2 (k : KT R) : KT R := fun fr H => opn 10 fr (fun s0 s2 s3 s5 s6 s9 s13 s14 s15 s20 => 
(k [s0, (.int .i32 (-1)), s3, s5, s6, s9, s13, s14, s15, s20] H : R))
noncomputable def r81_1 (k : KT R) : KT R := fun fr H => opn 10 fr (fun s0 s2 s3 s5 s6 s9 s13 s14 s15 s20 => 
(qLenS s0 fun v8 =>
qLss X 3 v8 (.int .i64 4) fun v9 =>
k [s0, s2, s3, s5, s6, v9, s13, s14, s15, s20] H : R))
noncomputable def r81_0 (k : KT R) : KT R := fun fr H => opn 10 fr (fun s0 s2 s3 s5 s6 s9 s13 s14 s15 s20 => 
(k [s0, (.int .i32 0), s3, s5, s6, s9, s13, s14, s15, s20] H : R))
noncomputable def c81 (C : CallF) (l0 : List AV) (H : AH) (k : AV → AH → R) : R := opn 1 l0 (fun x0 => (qFn (fun kr => (r81_0 (r81_1 (qCd (sel 5) (fun _ => (r81_2 kr)) (fun k6 => k6) (r81_3 (r81_4 C (qBl (fun k1 => (qLoop (l81_5 C k1 kr))) (r81_11 kr))))))))
(fun fr H => k (sel 1 fr) H) [x0, Aes.undef, Aes.undef, Aes.undef, Aes.undef, Aes.undef, Aes.undef, Aes.undef, Aes.undef, Aes.undef] H : R))
/- strings.HasPrefix -/
noncomputable def r82_1 (C : CallF) (k : KT R) : KT R := fun fr H => opn 3 fr (fun s0 s1 s4 => 
(qRes (C 88 [s0, s1] H) fun v7 H =>
k [s0, s1, v7] H : R))
noncomputable def r82_0 (k : KT R) : KT R := fun fr H => opn 3 fr (fun s0 s1 s4 => 
(k [s0, s1, (.bool false)] H : R))
noncomputable def c82 (C : CallF) (l0 : List AV) (H : AH) (k : AV → AH → R) : R := opn 2 l0 (fun x0 x1 => (qFn (fun kr => (r82_0 (r82_1 C kr)))
(fun fr H => k (sel 2 fr) H) [x0, x1, Aes.undef] H : R))
/- internal/stringslite.HasPrefix -/
noncomputable def r88_1 (k : KT R) : KT R := fun fr H => opn 3 fr (fun s0 s1 s4 => 
(qLenS s0 fun v6 =>
qLenS s1 fun v8 =>
qGeq X 3 v6 v8 fun v9 =>
qG v9 true (fun k => k s0 H) H fun v11 H =>
qG v9 true (fun k => k s1 H) H fun v12 H =>
qG v9 true (fun k => qLenS v12 fun v => k v H) H fun v13 H =>
qG v9 true (fun k => qSlc Tryd.t9.desc 0 v11 none (some v13) none fun v => k v H) H fun v14 H =>
qG v9 true (fun k => k s1 H) H fun v15 H =>
qG v9 true (fun k => qEql X 9 v14 v15 fun v => k v H) H fun v16 H =>
qPick v9 v16 (.bool false) fun v17 =>
k [s0, s1, v17] H : R))
noncomputable def r88_0 (k : KT R) : KT R := fun fr H => opn 3 fr (fun s0 s1 s4 => 
(k [s0, s1, (.bool false)] H : R))
noncomputable def c88 (C : CallF) (l0 : List AV) (H : AH) (k : AV → AH → R) : R := opn 2 l0 (fun x0 x1 => (qFn (fun kr => (r88_0 (r88_1 kr)))
(fun fr H => k (sel 2 fr) H) [x0, x1, Aes.undef] H : R))
/- strings.trimLeftByte -/
noncomputable def r89_3 (k : KT R) : KT R := fun fr H => opn 4 fr (fun s0 s1 s4 s13 => 
(k [s0, s1, s0, s13] H : R))
noncomputable def r89_2 (k : KT R) : KT R := fun fr H => opn 4 fr (fun s0 s1 s4 s13 => 
(qSlc Tryd.t9.desc 0 s0 (some (.int .i64 1)) none none fun v15 =>
k [v15, s1, s4, s13] H : R))
noncomputable def r89_1 (k : KT R) : KT R := fun fr H => opn 4 fr (fun s0 s1 s4 s13 => 
(qLenS s0 fun v6 =>
qGtr X 3 v6 (.int .i64 0) fun v7 =>
qG v7 true (fun k => k s0 H) H fun v9 H =>
qG v7 true (fun k => qIx v9 (.int .i64 0) fun v => k v H) H fun v10 H =>
qG v7 true (fun k => k s1 H) H fun v11 H =>
qG v7 true (fun k => qEql X 5 v10 v11 fun v => k v H) H fun v12 H =>
qPick v7 v12 (.bool false) fun v13 =>
k [s0, s1, s4, v13] H : R))
noncomputable def l89_4 (k1 : KT R) : KT R → KT R := fun k2 => (r89_1 (qCd (sel 3) (fun k4 => k4) (fun _ => k1) (qBl (fun k3 => (r89_2 k3)) k2)))
noncomputable def r89_0 (k : KT R) : KT R := fun fr H => opn 4 fr (fun s0 s1 s4 s13 => 
(k [s0, s1, (.str []), s13] H : R))
noncomputable def c89 (C : CallF) (l0 : List AV) (H : AH) (k : AV → AH → R) : R := opn 2 l0 (fun x0 x1 => (qFn (fun kr => (r89_0 (qBl (fun k1 => (qLoop (l89_4 k1))) (r89_3 kr))))
(fun fr H => k (sel 2 fr) H) [x0, x1, Aes.undef, Aes.undef] H : R))
/- strings.makeASCIISet -/
noncomputable def r90_8 (k : KT R) : KT R := fun fr H => opn 7 fr (fun s0 s2 s3 s4 s5 s9 s16 => 
(qLdA 256 s2 H fun v20 =>
qSt 256 s2 v20 H fun _ H =>
k [s0, s2, (.bool true), s4, s5, s9, s16] H : R))
noncomputable def r90_3 (k : KT R) : KT R := fun fr H => opn 7 fr (fun s0 s2 s3 s4 s5 s9 s16 => 
(qAdd X 3 s4 (.int .i64 1) fun v11 =>
k [s0, s2, s3, v11, s5, s9, s16] H : R))
noncomputable def r90_7 (k : KT R) : KT R := fun fr H => opn 7 fr (fun s0 s2 s3 s4 s5 s9 s16 => 
(qIaA 256 1 s2 s5 fun v19 =>
qSt 1 v19 (.bool true) H fun _ H =>
k [s0, s2, s3, s4, s5, s9, s16] H : R))
noncomputable def r90_6 (k : KT R) : KT R := fun fr H => opn 7 fr (fun s0 s2 s3 s4 s5 s9 s16 => 
(qLdA 256 s2 H fun v17 =>
qSt 256 s2 v17 H fun _ H =>
k [s0, s2, (.bool false), s4, s5, s9, s16] H : R))
noncomputable def r90_5 (k : KT R) : KT R := fun fr H => opn 7 fr (fun s0 s2 s3 s4 s5 s9 s16 => 
(qGeq X 5 s5 (.int .u8 128) fun v16 =>
k [s0, s2, s3, s4, s5, s9, v16] H : R))
noncomputable def r90_4 (k : KT R) : KT R := fun fr H => opn 7 fr (fun s0 s2 s3 s4 s5 s9 s16 => 
(qIx s0 s4 fun v14 =>
k [s0, s2, s3, s4, v14, s9, s16] H : R))
noncomputable def r90_2 (k : KT R) : KT R := fun fr H => opn 7 fr (fun s0 s2 s3 s4 s5 s9 s16 => 
(qLenS s0 fun v8 =>
qLss X 3 s4 v8 fun v9 =>
k [s0, s2, s3, s4, s5, v9, s16] H : R))
noncomputable def l90_5 (k1 : KT R) (kr : KT R) : KT R → KT R := fun k2 => (r90_2 (qCd (sel 5) (fun k5 => k5) (fun _ => k1) (qBl (fun k3 => (r90_4 (r90_5 (qCd (sel 6) (fun _ => (r90_6 kr)) (fun k4 => k4) (r90_7 k3))))) (r90_3 k2))))
noncomputable def r90_1 (k : KT R) : KT R := fun fr H => opn 7 fr (fun s0 s2 s3 s4 s5 s9 s16 => 
(k [s0, s2, s3, (.int .i64 0), s5, s9, s16] H : R))
noncomputable def r90_0 (k : KT R) : KT R := fun fr H => opn 7 fr (fun s0 s2 s3 s4 s5 s9 s16 => 
(qNew (.cells z106) .ptr H fun v2 H =>
k [s0, v2, (.bool false), s4, s5, s9, s16] H : R))
noncomputable def c90 (C : CallF) (l0 : List AV) (H : AH) (k : AV → AH → R) : R := opn 1 l0 (fun x0 => (qFn (fun kr => (r90_0 (r90_1 (qBl (fun k1 => (qLoop (l90_5 k1 kr))) (r90_8 kr)))))
(fun fr H => qPtr (sel 1 fr) (qLdA 256 (sel 1 fr) H fun w0 => k (.tup [w0, (sel 2 fr)]) H)) [x0, Aes.undef, Aes.undef, Aes.undef, Aes.undef, Aes.undef, Aes.undef] H : R))
/- strings.trimLeftASCII -/
noncomputable def r91_4 (k : KT R) : KT R := fun fr H => opn 5 fr (fun s0 s1 s4 s7 s12 => 
(k [s0, s1, s0, s7, s12] H : R))
noncomputable def r91_3 (k : KT R) : KT R := fun fr H => opn 5 fr (fun s0 s1 s4 s7 s12 => 
(qSlc Tryd.t9.desc 0 s0 (some (.int .i64 1)) none none fun v14 =>
k [v14, s1, s4, s7, s12] H : R))
noncomputable def r91_2 (C : CallF) (k : KT R) : KT R := fun fr H => opn 5 fr (fun s0 s1 s4 s7 s12 => 
(qIx s0 (.int .i64 0) fun v10 =>
qRes (C 102 [s1, v10] H) fun v11 H =>
qNot v11 fun v12 =>
k [s0, s1, s4, s7, v12] H : R))
noncomputable def r91_1 (k : KT R) : KT R := fun fr H => opn 5 fr (fun s0 s1 s4 s7 s12 => 
(qLenS s0 fun v6 =>
qGtr X 3 v6 (.int .i64 0) fun v7 =>
k [s0, s1, s4, v7, s12] H : R))
noncomputable def l91_5 (C : CallF) (k1 : KT R) : KT R → KT R := fun k2 => (r91_1 (qCd (sel 3) (fun k5 => k5) (fun _ => k1) (qBl (fun k3 => (r91_2 C (qCd (sel 4) (fun _ => k1) (fun k4 => k4) (r91_3 k3)))) k2)))
noncomputable def r91_0 (k : KT R) : KT R := fun fr H => opn 5 fr (fun s0 s1 s4 s7 s12 => 
(k [s0, s1, (.str []), s7, s12] H : R))
noncomputable def c91 (C : CallF) (l0 : List AV) (H : AH) (k : AV → AH → R) : R := opn 2 l0 (fun x0 x1 => (qFn (fun kr => (r91_0 (qBl (fun k1 => (qLoop (l91_5 C k1))) (r91_4 kr))))
(fun fr H => k (sel 2 fr) H) [x0, x1, Aes.undef, Aes.undef, Aes.undef] H : R))
/- strings.trimLeftUnicode -/
noncomputable def r92_5 (k : KT R) : KT R := fun fr H => opn 7 fr (fun s0 s1 s4 s5 s6 s9 s18 => 
(k [s0, s1, s0, s5, s6, s9, s18] H : R))
noncomputable def r92_4 (k : KT R) : KT R := fun fr H => opn 7 fr (fun s0 s1 s4 s5 s6 s9 s18 => 
(qSlc Tryd.t9.desc 0 s0 (some s6) none none fun v21 =>
k [v21, s1, s4, s5, s6, s9, s18] H : R))
noncomputable def r92_3 (C : CallF) (k : KT R) : KT R := fun fr H => opn 7 fr (fun s0 s1 s4 s5 s6 s9 s18 => 
(qRes (C 103 [s1, s5] H) fun v17 H =>
qNot v17 fun v18 =>
k [s0, s1, s4, s5, s6, s9, v18] H : R))
noncomputable def r92_2 (C : CallF) (k : KT R) : KT R := fun fr H => opn 7 fr (fun s0 s1 s4 s5 s6 s9 s18 => 
(qRes (C 100 [s0] H) fun v12 H =>
qExt v12 0 fun v13 =>
qExt v12 1 fun v14 =>
k [s0, s1, s4, v13, v14, s9, s18] H : R))
noncomputable def r92_1 (k : KT R) : KT R := fun fr H => opn 7 fr (fun s0 s1 s4 s5 s6 s9 s18 => 
(qLenS s0 fun v8 =>
qGtr X 3 v8 (.int .i64 0) fun v9 =>
k [s0, s1, s4, s5, s6, v9, s18] H : R))
noncomputable def l92_5 (C : CallF) (k1 : KT R) : KT R → KT R := fun k2 => (r92_1 (qCd (sel 5) (fun k5 => k5) (fun _ => k1) (qBl (fun k3 => (r92_2 C (r92_3 C (qCd (sel 6) (fun _ => k1) (fun k4 => k4) (r92_4 k3))))) k2)))
noncomputable def r92_0 (k : KT R) : KT R := fun fr H => opn 7 fr (fun s0 s1 s4 s5 s6 s9 s18 => 
(k [s0, s1, (.str []), s5, s6, s9, s18] H : R))
noncomputable def c92 (C : CallF) (l0 : List AV) (H : AH) (k : AV → AH → R) : R := opn 2 l0 (fun x0 x1 => (qFn (fun kr => (r92_0 (qBl (fun k1 => (qLoop (l92_5 C k1))) (r92_5 kr))))
(fun fr H => k (sel 2 fr) H) [x0, x1, Aes.undef, Aes.undef, Aes.undef, Aes.undef, Aes.undef] H : R))
/- unicode/utf8.appendRuneNonASCII -/
noncomputable def r95_4 (k : KT R) : KT R := fun fr H => opn 7 fr (fun s0 s1 s4 s5 s11 s25 s50 => 
(qO (binop X .shr 21 s1 (.int .u64 6)) fun v16 =>
qConvI .u8 v16 fun v17 =>
qO (binop X .or 5 (.int .u8 192) v17) fun v18 =>
qConvI .u8 s1 fun v20 =>
qO (binop X .and 5 v20 (.int .u8 63)) fun v21 =>
qO (binop X .or 5 (.int .u8 128) v21) fun v22 =>
qRows z5 2 [(0, v18), (1, v22)] fun v23 =>
qApp 1 1 s0 v23 true (some 5) H fun v24 H =>
k [s0, s1, v24, s5, s11, s25, s50] H : R))
noncomputable def r95_7 (k : KT R) : KT R := fun fr H => opn 7 fr (fun s0 s1 s4 s5 s11 s25 s50 => 
(qO (binop X .shr 21 s1 (.int .u64 12)) fun v36 =>
qConvI .u8 v36 fun v37 =>
qO (binop X .or 5 (.int .u8 224) v37) fun v38 =>
qO (binop X .shr 21 s1 (.int .u64 6)) fun v40 =>
qConvI .u8 v40 fun v41 =>
qO (binop X .and 5 v41 (.int .u8 63)) fun v42 =>
qO (binop X .or 5 (.int .u8 128) v42) fun v43 =>
qConvI .u8 s1 fun v45 =>
qO (binop X .and 5 v45 (.int .u8 63)) fun v46 =>
qO (binop X .or 5 (.int .u8 128) v46) fun v47 =>
qRows z5 3 [(0, v38), (1, v43), (2, v47)] fun v48 =>
qApp 1 1 s0 v48 true (some 5) H fun v49 H =>
k [s0, s1, v49, s5, s11, s25, s50] H : R))
noncomputable def r95_9 (k : KT R) : KT R := fun fr H => opn 7 fr (fun s0 s1 s4 s5 s11 s25 s50 => 
(qO (binop X .shr 21 s1 (.int .u64 18)) fun v59 =>
qConvI .u8 v59 fun v60 =>
qO (binop X .or 5 (.int .u8 240) v60) fun v61 =>
qO (binop X .shr 21 s1 (.int .u64 12)) fun v63 =>
qConvI .u8 v63 fun v64 =>
qO (binop X .and 5 v64 (.int .u8 63)) fun v65 =>
qO (binop X .or 5 (.int .u8 128) v65) fun v66 =>
qO (binop X .shr 21 s1 (.int .u64 6)) fun v68 =>
qConvI .u8 v68 fun v69 =>
qO (binop X .and 5 v69 (.int .u8 63)) fun v70 =>
qO (binop X .or 5 (.int .u8 128) v70) fun v71 =>
qConvI .u8 s1 fun v73 =>
qO (binop X .and 5 v73 (.int .u8 63)) fun v74 =>
qO (binop X .or 5 (.int .u8 128) v74) fun v75 =>
qRows z5 4 [(0, v61), (1, v66), (2, v71), (3, v75)] fun v76 =>
qApp 1 1 s0 v76 true (some 5) H fun v77 H =>
k [s0, s1, v77, s5, s11, s25, s50] H : R))
noncomputable def r95_2 (k : KT R) : KT R := fun fr H => opn 7 fr (fun s0 s1 s4 s5 s11 s25 s50 => 
(qRows z5 3 [(0, (.int .u8 239)), (1, (.int .u8 191)), (2, (.int .u8 189))] fun v9 =>
qApp 1 1 s0 v9 true (some 5) H fun v10 H =>
k [s0, s1, v10, s5, s11, s25, s50] H : R))
noncomputable def r95_8 (k : KT R) : KT R := fun fr H => opn 7 fr (fun s0 s1 s4 s5 s11 s25 s50 => 
(qGtr X 114 s5 (.int .u32 65535) fun v52 =>
qG v52 true (fun k => k s5 H) H fun v54 H =>
qG v52 true (fun k => qLeq X 114 v54 (.int .u32 1114111) fun v => k v H) H fun v55 H =>
qPick v52 v55 (.bool false) fun v56 =>
k [s0, s1, s4, s5, s11, s25, v56] H : R))
noncomputable def r95_6 (k : KT R) : KT R := fun fr H => opn 7 fr (fun s0 s1 s4 s5 s11 s25 s50 => 
(qLss X 114 (.int .u32 57343) s5 fun v29 =>
qG v29 true (fun k => k s5 H) H fun v31 H =>
qG v29 true (fun k => qLeq X 114 v31 (.int .u32 65535) fun v => k v H) H fun v32 H =>
qPick v29 v32 (.bool false) fun v33 =>
k [s0, s1, s4, s5, s11, v33, s50] H : R))
noncomputable def r95_5 (k : KT R) : KT R := fun fr H => opn 7 fr (fun s0 s1 s4 s5 s11 s25 s50 => 
(qLss X 114 s5 (.int .u32 55296) fun v27 =>
k [s0, s1, s4, s5, s11, v27, s50] H : R))
noncomputable def r95_3 (k : KT R) : KT R := fun fr H => opn 7 fr (fun s0 s1 s4 s5 s11 s25 s50 => 
(qLeq X 114 s5 (.int .u32 2047) fun v13 =>
k [s0, s1, s4, s5, v13, s25, s50] H : R))
noncomputable def r95_1 (k : KT R) : KT R := fun fr H => opn 7 fr (fun s0 s1 s4 s5 s11 s25 s50 => 
(qConvI .u32 s1 fun v7 =>
k [s0, s1, s4, v7, s11, s25, s50] H : R))
noncomputable def r95_0 (k : KT R) : KT R := fun fr H => opn 7 fr (fun s0 s1 s4 s5 s11 s25 s50 => 
(k [s0, s1, (.sl [] .nil), s5, s11, s25, s50] H : R))
noncomputable def c95 (C : CallF) (l0 : List AV) (H : AH) (k : AV → AH → R) : R := opn 2 l0 (fun x0 x1 => (qFn (fun kr => (r95_0 (r95_1 (qBl (fun k1 => (r95_3 (qCd (sel 4) (fun _ => (r95_4 kr)) (fun k2 => (r95_5 (qCd (sel 5) (fun k5 => k5) (fun k5 => (r95_6 k5)) (qCd (sel 5) (fun _ => (r95_7 kr)) (fun k3 => (r95_8 (qCd (sel 6) (fun _ => (r95_9 kr)) (fun _ => (r95_2 kr)) k3))) k2)))) k1))) kr))))
(fun fr H => k (sel 2 fr) H) [x0, x1, Aes.undef, Aes.undef, Aes.undef, Aes.undef, Aes.undef] H : R))
/- strings.ToLower -/
noncomputable def r96_28 (C : CallF) (k : KT R) : KT R := fun fr H => opn 18 fr (fun s0 s2 s3 s4 s5 s6 s7 s8 s9 s10 s14 s21 s31 s33 s41 s52 s57 s70 => 
(qRes (C 104 [(.fn (.func 105) [] []), s0] H) fun v77 H =>
k [s0, v77, s3, s4, s5, s6, s7, s8, s9, s10, s14, s21, s31, s33, s41, s52, s57, s70] H : R))
noncomputable def r96_27 (C : CallF) (k : KT R) : KT R := fun fr H => opn 18 fr (fun s0 s2 s3 s4 s5 s6 s7 s8 s9 s10 s14 s21 s31 s33 s41 s52 s57 s70 => 
(qRes (C 48 [s7] H) fun v75 H =>
k [s0, v75, s3, s4, s5, s6, s7, s8, s9, s10, s14, s21, s31, s33, s41, s52, s57, s70] H : R))
noncomputable def r96_26 (C : CallF) (k : KT R) : KT R := fun fr H => opn 18 fr (fun s0 s2 s3 s4 s5 s6 s7 s8 s9 s10 s14 s21 s31 s33 s41 s52 s57 s70 => 
(qSlc Tryd.t9.desc 0 s0 (some s8) none none fun v73 =>
qRes (C 53 [s7, v73] H) fun v74 H =>
k [s0, s2, s3, s4, s5, s6, s7, s8, s9, s10, s14, s21, s31, s33, s41, s52, s57, s70] H : R))
noncomputable def r96_25 (k : KT R) : KT R := fun fr H => opn 18 fr (fun s0 s2 s3 s4 s5 s6 s7 s8 s9 s10 s14 s21 s31 s33 s41 s52 s57 s70 => 
(qLenS s0 fun v69 =>
qLss X 3 s8 v69 fun v70 =>
k [s0, s2, s3, s4, s5, s6, s7, s8, s9, s10, s14, s21, s31, s33, s41, s52, s57, v70] H : R))
noncomputable def r96_17 (k : KT R) : KT R := fun fr H => opn 18 fr (fun s0 s2 s3 s4 s5 s6 s7 s8 s9 s10 s14 s21 s31 s33 s41 s52 s57 s70 => 
(qAdd X 3 s9 (.int .i64 1) fun v43 =>
k [s0, s2, s3, s4, s5, s6, s7, s8, v43, s10, s14, s21, s31, s33, s41, s52, s57, s70] H : R))
noncomputable def r96_24 (k : KT R) : KT R := fun fr H => opn 18 fr (fun s0 s2 s3 s4 s5 s6 s7 s8 s9 s10 s14 s21 s31 s33 s41 s52 s57 s70 => 
(qAdd X 3 s9 (.int .i64 1) fun v66 =>
k [s0, s2, s3, s4, s5, s6, s7, v66, s9, s10, s14, s21, s31, s33, s41, s52, s57, s70] H : R))
noncomputable def r96_23 (C : CallF) (k : KT R) : KT R := fun fr H => opn 18 fr (fun s0 s2 s3 s4 s5 s6 s7 s8 s9 s10 s14 s21 s31 s33 s41 s52 s57 s70 => 
(qRes (C 51 [s7, s10] H) fun v64 H =>
k [s0, s2, s3, s4, s5, s6, s7, s8, s9, s10, s14, s21, s31, s33, s41, s52, s57, s70] H : R))
noncomputable def r96_22 (C : CallF) (k : KT R) : KT R := fun fr H => opn 18 fr (fun s0 s2 s3 s4 s5 s6 s7 s8 s9 s10 s14 s21 s31 s33 s41 s52 s57 s70 => 
(qSlc Tryd.t9.desc 0 s0 (some s8) (some s9) none fun v61 =>
qRes (C 53 [s7, v61] H) fun v62 H =>
k [s0, s2, s3, s4, s5, s6, s7, s8, s9, s10, s14, s21, s31, s33, s41, s52, s57, s70] H : R))
noncomputable def r96_21 (k : KT R) : KT R := fun fr H => opn 18 fr (fun s0 s2 s3 s4 s5 s6 s7 s8 s9 s10 s14 s21 s31 s33 s41 s52 s57 s70 => 
(qLss X 3 s8 s9 fun v57 =>
k [s0, s2, s3, s4, s5, s6, s7, s8, s9, s10, s14, s21, s31, s33, s41, s52, v57, s70] H : R))
noncomputable def r96_20 (k : KT R) : KT R := fun fr H => opn 18 fr (fun s0 s2 s3 s4 s5 s6 s7 s8 s9 s10 s14 s21 s31 s33 s41 s52 s57 s70 => 
(qAdd X 5 s10 (.int .u8 32) fun v54 =>
k [s0, s2, s3, s4, s5, s6, s7, s8, s9, v54, s14, s21, s31, s33, s41, s52, s57, s70] H : R))
noncomputable def r96_19 (k : KT R) : KT R := fun fr H => opn 18 fr (fun s0 s2 s3 s4 s5 s6 s7 s8 s9 s10 s14 s21 s31 s33 s41 s52 s57 s70 => 
(qLeq X 5 (.int .u8 65) s10 fun v48 =>
qG v48 true (fun k => k s10 H) H fun v50 H =>
qG v48 true (fun k => qLeq X 5 v50 (.int .u8 90) fun v => k v H) H fun v51 H =>
qPick v48 v51 (.bool false) fun v52 =>
k [s0, s2, s3, s4, s5, s6, s7, s8, s9, s10, s14, s21, s31, s33, s41, v52, s57, s70] H : R))
noncomputable def r96_18 (k : KT R) : KT R := fun fr H => opn 18 fr (fun s0 s2 s3 s4 s5 s6 s7 s8 s9 s10 s14 s21 s31 s33 s41 s52 s57 s70 => 
(qIx s0 s9 fun v46 =>
k [s0, s2, s3, s4, s5, s6, s7, s8, s9, v46, s14, s21, s31, s33, s41, s52, s57, s70] H : R))
noncomputable def r96_16 (k : KT R) : KT R := fun fr H => opn 18 fr (fun s0 s2 s3 s4 s5 s6 s7 s8 s9 s10 s14 s21 s31 s33 s41 s52 s57 s70 => 
(qLenS s0 fun v40 =>
qLss X 3 s9 v40 fun v41 =>
k [s0, s2, s3, s4, s5, s6, s7, s8, s9, s10, s14, s21, s31, s33, v41, s52, s57, s70] H : R))
noncomputable def l96_8 (C : CallF) (k3 : KT R) : KT R → KT R := fun k4 => (r96_16 (qCd (sel 14) (fun k8 => k8) (fun _ => k3) (qBl (fun k5 => (r96_18 (r96_19 (qCd (sel 15) (fun k6 => (r96_20 (r96_21 (qCd (sel 16) (fun k7 => (r96_22 C k7)) (fun k7 => k7) (r96_23 C (r96_24 k6)))))) (fun k6 => k6) k5)))) (r96_17 k4))))
noncomputable def r96_15 (k : KT R) : KT R := fun fr H => opn 18 fr (fun s0 s2 s3 s4 s5 s6 s7 s8 s9 s10 s14 s21 s31 s33 s41 s52 s57 s70 => 
(k [s0, s2, s3, s4, s5, s6, s7, s8, (.int .i64 0), s10, s14, s21, s31, s33, s41, s52, s57, s70] H : R))
noncomputable def r96_14 (C : CallF) (k : KT R) : KT R := fun fr H => opn 18 fr (fun s0 s2 s3 s4 s5 s6 s7 s8 s9 s10 s14 s21 s31 s33 s41 s52 s57 s70 => 
(qLenS s0 fun v36 =>
qRes (C 87 [s7, v36] H) fun v37 H =>
k [s0, s2, s3, s4, s5, s6, s7, s8, s9, s10, s14, s21, s31, s33, s41, s52, s57, s70] H : R))
noncomputable def r96_13 (k : KT R) : KT R := fun fr H => opn 18 fr (fun s0 s2 s3 s4 s5 s6 s7 s8 s9 s10 s14 s21 s31 s33 s41 s52 s57 s70 => 
(k [s0, s2, s3, s4, s5, s6, s7, (.int .i64 0), s9, s10, s14, s21, s31, s33, s41, s52, s57, s70] H : R))
noncomputable def r96_12 (k : KT R) : KT R := fun fr H => opn 18 fr (fun s0 s2 s3 s4 s5 s6 s7 s8 s9 s10 s14 s21 s31 s33 s41 s52 s57 s70 => 
(qNew (.obj 63 0 z63) .ptr H fun v7 H =>
k [s0, s2, s3, s4, s5, s6, v7, s8, s9, s10, s14, s21, s31, s33, s41, s52, s57, s70] H : R))
noncomputable def r96_11 (k : KT R) : KT R := fun fr H => opn 18 fr (fun s0 s2 s3 s4 s5 s6 s7 s8 s9 s10 s14 s21 s31 s33 s41 s52 s57 s70 => 
(k [s0, s0, s3, s4, s5, s6, s7, s8, s9, s10, s14, s21, s31, s33, s41, s52, s57, s70] H : R))
noncomputable def r96_10 (k : KT R) : KT R := fun fr H => opn 18 fr (fun s0 s2 s3 s4 s5 s6 s7 s8 s9 s10 s14 s21 s31 s33 s41 s52 s57 s70 => 
(qNot s4 fun v33 =>
k [s0, s2, s3, s4, s5, s6, s7, s8, s9, s10, s14, s21, s31, v33, s41, s52, s57, s70] H : R))
noncomputable def r96_9 (k : KT R) : KT R := fun fr H => opn 18 fr (fun s0 s2 s3 s4 s5 s6 s7 s8 s9 s10 s14 s21 s31 s33 s41 s52 s57 s70 => 
(k [s0, s2, s3, s4, s5, s6, s7, s8, s9, s10, s14, s21, s3, s33, s41, s52, s57, s70] H : R))
noncomputable def r96_4 (k : KT R) : KT R := fun fr H => opn 18 fr (fun s0 s2 s3 s4 s5 s6 s7 s8 s9 s10 s14 s21 s31 s33 s41 s52 s57 s70 => 
(qAdd X 3 s5 (.int .i64 1) fun v16 =>
k [s0, s2, s3, s4, v16, s6, s7, s8, s9, s10, s14, s21, s31, s33, s41, s52, s57, s70] H : R))
noncomputable def r96_8 (k : KT R) : KT R := fun fr H => opn 18 fr (fun s0 s2 s3 s4 s5 s6 s7 s8 s9 s10 s14 s21 s31 s33 s41 s52 s57 s70 => 
(qG s4 false (fun k => k s6 H) H fun v24 H =>
qG s4 false (fun k => qLeq X 5 (.int .u8 65) v24 fun v => k v H) H fun v25 H =>
qG s4 false (fun k => k v25 H) H fun v26 H =>
qG v26 true (fun k => k s6 H) H fun v27 H =>
qG v26 true (fun k => qLeq X 5 v27 (.int .u8 90) fun v => k v H) H fun v28 H =>
qG s4 false (fun k => qPick v26 v28 (.bool false) fun v => k v H) H fun v29 H =>
qPick s4 (.bool true) v29 fun v30 =>
k [s0, s2, s3, v30, s5, s6, s7, s8, s9, s10, s14, s21, s31, s33, s41, s52, s57, s70] H : R))
noncomputable def r96_7 (k : KT R) : KT R := fun fr H => opn 18 fr (fun s0 s2 s3 s4 s5 s6 s7 s8 s9 s10 s14 s21 s31 s33 s41 s52 s57 s70 => 
(k [s0, s2, (.bool false), s4, s5, s6, s7, s8, s9, s10, s14, s21, s31, s33, s41, s52, s57, s70] H : R))
noncomputable def r96_6 (k : KT R) : KT R := fun fr H => opn 18 fr (fun s0 s2 s3 s4 s5 s6 s7 s8 s9 s10 s14 s21 s31 s33 s41 s52 s57 s70 => 
(qGeq X 5 s6 (.int .u8 128) fun v21 =>
k [s0, s2, s3, s4, s5, s6, s7, s8, s9, s10, s14, v21, s31, s33, s41, s52, s57, s70] H : R))
noncomputable def r96_5 (k : KT R) : KT R := fun fr H => opn 18 fr (fun s0 s2 s3 s4 s5 s6 s7 s8 s9 s10 s14 s21 s31 s33 s41 s52 s57 s70 => 
(qIx s0 s5 fun v19 =>
k [s0, s2, s3, s4, s5, v19, s7, s8, s9, s10, s14, s21, s31, s33, s41, s52, s57, s70] H : R))
noncomputable def r96_3 (k : KT R) : KT R := fun fr H => opn 18 fr (fun s0 s2 s3 s4 s5 s6 s7 s8 s9 s10 s14 s21 s31 s33 s41 s52 s57 s70 => 
(qLenS s0 fun v13 =>
qLss X 3 s5 v13 fun v14 =>
k [s0, s2, s3, s4, s5, s6, s7, s8, s9, s10, v14, s21, s31, s33, s41, s52, s57, s70] H : R))
noncomputable def l96_14 (k10 : KT R) : KT R → KT R := fun k11 => (r96_3 (qCd (sel 10) (fun k14 => k14) (fun _ => k10) (qBl (fun k12 => (r96_5 (r96_6 (qCd (sel 11) (fun _ => (r96_7 k10)) (fun k13 => k13) (r96_8 k12))))) (r96_4 k11))))
noncomputable def r96_2 (k : KT R) : KT R := fun fr H => opn 18 fr (fun s0 s2 s3 s4 s5 s6 s7 s8 s9 s10 s14 s21 s31 s33 s41 s52 s57 s70 => 
(k [s0, s2, s3, s4, (.int .i64 0), s6, s7, s8, s9, s10, s14, s21, s31, s33, s41, s52, s57, s70] H : R))
noncomputable def r96_1 (k : KT R) : KT R := fun fr H => opn 18 fr (fun s0 s2 s3 s4 s5 s6 s7 s8 s9 s10 s14 s21 s31 s33 s41 s52 s57 s70 => 
(k [s0, s2, (.bool true), (.bool false), s5, s6, s7, s8, s9, s10, s14, s21, s31, s33, s41, s52, s57, s70] H : R))
noncomputable def r96_0 (k : KT R) : KT R := fun fr H => opn 18 fr (fun s0 s2 s3 s4 s5 s6 s7 s8 s9 s10 s14 s21 s31 s33 s41 s52 s57 s70 => 
(k [s0, (.str []), s3, s4, s5, s6, s7, s8, s9, s10, s14, s21, s31, s33, s41, s52, s57, s70] H : R))
noncomputable def c96 (C : CallF) (l0 : List AV) (H : AH) (k : AV → AH → R) : R := opn 1 l0 (fun x0 => (qFn (fun kr => (r96_0 (r96_1 (r96_2 (qBl (fun k10 => (qLoop (l96_14 k10))) (r96_9 (qCd (sel 12) (fun _ => (r96_10 (qCd (sel 13) (fun _ => (r96_11 kr)) (fun k9 => k9) (r96_12 (r96_13 (r96_14 C (r96_15 (qBl (fun k3 => (qLoop (l96_8 C k3))) (r96_25 (qCd (sel 17) (fun k2 => (r96_26 C k2)) (fun k2 => k2) (r96_27 C kr))))))))))) (fun k1 => k1) (r96_28 C kr))))))))
(fun fr H => k (sel 1 fr) H) [x0, Aes.undef, Aes.undef, Aes.undef, Aes.undef, Aes.undef, Aes.undef, Aes.undef, Aes.undef, Aes.undef, Aes.undef, Aes.undef, Aes.undef, Aes.undef, Aes.undef, Aes.undef, Aes.undef, Aes.undef] H : R))
/- unicode/utf8.DecodeRuneInString -/
noncomputable def r100_2 (k : KT R) : KT R := fun fr H => opn 4 fr (fun s0 s2 s3 s10 => 
(qIx s0 (.int .i64 0) fun v12 =>
qConvI .i32 v12 fun v13 =>
k [s0, v13, (.int .i64 1), s10] H : R))
noncomputable def r100_3 (C : CallF) (k : KT R) : KT R := fun fr H => opn 4 fr (fun s0 s2 s3 s10 => 
(qRes (C 109 [s0] H) fun v16 H =>
qExt v16 0 fun v17 =>
qExt v16 1 fun v18 =>
k [s0, v17, v18, s10] H : R))
noncomputable def r100_1 (k : KT R) : KT R := fun fr H => opn 4 fr (fun s0 s2 s3 s10 => 
(qNeq X 9 s0 (.str []) fun v5 =>
qG v5 true (fun k => k s0 H) H fun v7 H =>
qG v5 true (fun k => qIx v7 (.int .i64 0) fun v => k v H) H fun v8 H =>
qG v5 true (fun k => qLss X 5 v8 (.int .u8 128) fun v => k v H) H fun v9 H =>
qPick v5 v9 (.bool false) fun v10 =>
k [s0, s2, s3, v10] H : R))
noncomputable def r100_0 (k : KT R) : KT R := fun fr H => opn 4 fr (fun s0 s2 s3 s10 => 
(k [s0, (.int .i32 0), (.int .i64 0), s10] H : R))
noncomputable def c100 (C : CallF) (l0 : List AV) (H : AH) (k : AV → AH → R) : R := opn 1 l0 (fun x0 => (qFn (fun kr => (r100_0 (r100_1 (qCd (sel 3) (fun _ => (r100_2 kr)) (fun k1 => (r100_3 C k1)) kr))))
(fun fr H => k (.tup [(sel 1 fr), (sel 2 fr)]) H) [x0, Aes.undef, Aes.undef, Aes.undef] H : R))
/- (*strings.asciiSet).contains -/
noncomputable def r102_1 (k : KT R) : KT R := fun fr H => opn 3 fr (fun s0 s1 s4 => 
(qNc s0 fun v7 =>
qIaA 256 1 v7 s1 fun v8 =>
qLd v8 H fun v9 =>
k [s0, s1, v9] H : R))
noncomputable def r102_0 (k : KT R) : KT R := fun fr H => opn 3 fr (fun s0 s1 s4 => 
(k [s0, s1, (.bool false)] H : R))
noncomputable def c102 (C : CallF) (l0 : List AV) (H : AH) (k : AV → AH → R) : R := opn 2 l0 (fun x0 x1 => (qFn (fun kr => (r102_0 (r102_1 kr)))
(fun fr H => k (sel 2 fr) H) [x0, x1, Aes.undef] H : R))
/- strings.ContainsRune -/
noncomputable def r103_1 (C : CallF) (k : KT R) : KT R := fun fr H => opn 3 fr (fun s0 s1 s4 => 
(qRes (C 52 [s0, s1] H) fun v7 H =>
qGeq X 3 v7 (.int .i64 0) fun v8 =>
k [s0, s1, v8] H : R))
noncomputable def r103_0 (k : KT R) : KT R := fun fr H => opn 3 fr (fun s0 s1 s4 => 
(k [s0, s1, (.bool false)] H : R))
noncomputable def c103 (C : CallF) (l0 : List AV) (H : AH) (k : AV → AH → R) : R := opn 2 l0 (fun x0 x1 => (qFn (fun kr => (r103_0 (r103_1 C kr)))
(fun fr H => k (sel 2 fr) H) [x0, x1, Aes.undef] H : R))
/- strings.Map -/
noncomputable def r104_27 (C : CallF) (k : KT R) : KT R := fun fr H => opn 23 fr (fun s0 s1 s4 s5 s6 s7 s8 s9 s11 s12 s14 s15 s16 s28 s30 s44 s56 s65 s68 s69 s70 s76 s78 => 
(qRes (C 48 [s5] H) fun v84 H =>
k [s0, s1, v84, s5, s6, s7, s8, s9, s11, s12, s14, s15, s16, s28, s30, s44, s56, s65, s68, s69, s70, s76, s78] H : R))
noncomputable def r104_25 (C : CallF) (k : KT R) : KT R := fun fr H => opn 23 fr (fun s0 s1 s4 s5 s6 s7 s8 s9 s11 s12 s14 s15 s16 s28 s30 s44 s56 s65 s68 s69 s70 s76 s78 => 
(qConvI .u8 s12 fun v80 =>
qRes (C 51 [s5, v80] H) fun v81 H =>
k [s0, s1, s4, s5, s6, s7, s8, s9, s11, s12, s14, s15, s16, s28, s30, s44, s56, s65, s68, s69, s70, s76, s78] H : R))
noncomputable def r104_26 (C : CallF) (k : KT R) : KT R := fun fr H => opn 23 fr (fun s0 s1 s4 s5 s6 s7 s8 s9 s11 s12 s14 s15 s16 s28 s30 s44 s56 s65 s68 s69 s70 s76 s78 => 
(qRes (C 54 [s5, s12] H) fun v83 H =>
k [s0, s1, s4, s5, s6, s7, s8, s9, s11, s12, s14, s15, s16, s28, s30, s44, s56, s65, s68, s69, s70, s76, s78] H : R))
noncomputable def r104_24 (k : KT R) : KT R := fun fr H => opn 23 fr (fun s0 s1 s4 s5 s6 s7 s8 s9 s11 s12 s14 s15 s16 s28 s30 s44 s56 s65 s68 s69 s70 s76 s78 => 
(qLss X 21 s12 (.int .i32 128) fun v78 =>
k [s0, s1, s4, s5, s6, s7, s8, s9, s11, s12, s14, s15, s16, s28, s30, s44, s56, s65, s68, s69, s70, s76, v78] H : R))
noncomputable def r104_23 (k : KT R) : KT R := fun fr H => opn 23 fr (fun s0 s1 s4 s5 s6 s7 s8 s9 s11 s12 s14 s15 s16 s28 s30 s44 s56 s65 s68 s69 s70 s76 s78 => 
(qGeq X 21 s12 (.int .i32 0) fun v76 =>
k [s0, s1, s4, s5, s6, s7, s8, s9, s11, s12, s14, s15, s16, s28, s30, s44, s56, s65, s68, s69, s70, v76, s78] H : R))
noncomputable def r104_22 (C : CallF) (k : KT R) : KT R := fun fr H => opn 23 fr (fun s0 s1 s4 s5 s6 s7 s8 s9 s11 s12 s14 s15 s16 s28 s30 s44 s56 s65 s68 s69 s70 s76 s78 => 
(qCallV C s0 [s11] H fun v74 H =>
k [s0, s1, s4, s5, s6, s7, s8, s9, s11, v74, s14, s15, s16, s28, s30, s44, s56, s65, s68, s69, s70, s76, s78] H : R))
noncomputable def r104_21 (k : KT R) : KT R := fun fr H => opn 23 fr (fun s0 s1 s4 s5 s6 s7 s8 s9 s11 s12 s14 s15 s16 s28 s30 s44 s56 s65 s68 s69 s70 s76 s78 => 
(qExt s69 2 fun v71 =>
k [s0, s1, s4, s5, s6, s7, s8, s9, v71, s12, s14, s15, s16, s28, s30, s44, s56, s65, s68, s69, s70, s76, s78] H : R))
noncomputable def r104_20 (k : KT R) : KT R := fun fr H => opn 23 fr (fun s0 s1 s4 s5 s6 s7 s8 s9 s11 s12 s14 s15 s16 s28 s30 s44 s56 s65 s68 s69 s70 s76 s78 => 
(qNext s68 H fun v69 H =>
qExt v69 0 fun v70 =>
k [s0, s1, s4, s5, s6, s7, s8, s9, s11, s12, s14, s15, s16, s28, s30, s44, s56, s65, s68, v69, v70, s76, s78] H : R))
noncomputable def l104_6 (C : CallF) (k1 : KT R) : KT R → KT R := fun k2 => (r104_20 (qCd (sel 20) (fun k6 => k6) (fun _ => k1) (qBl (fun k3 => (r104_21 (r104_22 C (r104_23 (qCd (sel 21) (fun k4 => (r104_24 (qCd (sel 22) (fun k5 => (r104_25 C k5)) (fun k5 => (r104_26 C k5)) k4))) (fun k4 => k4) k3))))) k2)))
noncomputable def r104_19 (k : KT R) : KT R := fun fr H => opn 23 fr (fun s0 s1 s4 s5 s6 s7 s8 s9 s11 s12 s14 s15 s16 s28 s30 s44 s56 s65 s68 s69 s70 s76 s78 => 
(qRange s1 H fun v68 H =>
k [s0, s1, s4, s5, s6, s7, s8, s9, s11, s12, s14, s15, s16, s28, s30, s44, s56, s65, v68, s69, s70, s76, s78] H : R))
noncomputable def r104_18 (k : KT R) : KT R := fun fr H => opn 23 fr (fun s0 s1 s4 s5 s6 s7 s8 s9 s11 s12 s14 s15 s16 s28 s30 s44 s56 s65 s68 s69 s70 s76 s78 => 
(k [s0, s1, s1, s5, s6, s7, s8, s9, s11, s12, s14, s15, s16, s28, s30, s44, s56, s65, s68, s69, s70, s76, s78] H : R))
noncomputable def r104_17 (C : CallF) (k : KT R) : KT R := fun fr H => opn 23 fr (fun s0 s1 s4 s5 s6 s7 s8 s9 s11 s12 s14 s15 s16 s28 s30 s44 s56 s65 s68 s69 s70 s76 s78 => 
(qRes (C 112 [s5] H) fun v64 H =>
qEql X 3 v64 (.int .i64 0) fun v65 =>
k [s0, s1, s4, s5, s6, s7, s8, s9, s11, s12, s14, s15, s16, s28, s30, s44, s56, v65, s68, s69, s70, s76, s78] H : R))
noncomputable def r104_16 (k : KT R) : KT R := fun fr H => opn 23 fr (fun s0 s1 s4 s5 s6 s7 s8 s9 s11 s12 s14 s15 s16 s28 s30 s44 s56 s65 s68 s69 s70 s76 s78 => 
(qAdd X 3 s6 s9 fun v62 =>
qSlc Tryd.t9.desc 0 s1 (some v62) none none fun v63 =>
k [s0, v63, s4, s5, s6, s7, s8, s9, s11, s12, s14, s15, s16, s28, s30, s44, s56, s65, s68, s69, s70, s76, s78] H : R))
noncomputable def r104_15 (C : CallF) (k : KT R) : KT R := fun fr H => opn 23 fr (fun s0 s1 s4 s5 s6 s7 s8 s9 s11 s12 s14 s15 s16 s28 s30 s44 s56 s65 s68 s69 s70 s76 s78 => 
(qRes (C 54 [s5, s8] H) fun v58 H =>
k [s0, s1, s4, s5, s6, s7, s8, s9, s11, s12, s14, s15, s16, s28, s30, s44, s56, s65, s68, s69, s70, s76, s78] H : R))
noncomputable def r104_14 (k : KT R) : KT R := fun fr H => opn 23 fr (fun s0 s1 s4 s5 s6 s7 s8 s9 s11 s12 s14 s15 s16 s28 s30 s44 s56 s65 s68 s69 s70 s76 s78 => 
(qGeq X 21 s8 (.int .i32 0) fun v56 =>
k [s0, s1, s4, s5, s6, s7, s8, s9, s11, s12, s14, s15, s16, s28, s30, s44, v56, s65, s68, s69, s70, s76, s78] H : R))
noncomputable def r104_13 (C : CallF) (k : KT R) : KT R := fun fr H => opn 23 fr (fun s0 s1 s4 s5 s6 s7 s8 s9 s11 s12 s14 s15 s16 s28 s30 s44 s56 s65 s68 s69 s70 s76 s78 => 
(qSlc Tryd.t9.desc 0 s1 none (some s6) none fun v53 =>
qRes (C 53 [s5, v53] H) fun v54 H =>
k [s0, s1, s4, s5, s6, s7, s8, s9, s11, s12, s14, s15, s16, s28, s30, s44, s56, s65, s68, s69, s70, s76, s78] H : R))
noncomputable def r104_12 (C : CallF) (k : KT R) : KT R := fun fr H => opn 23 fr (fun s0 s1 s4 s5 s6 s7 s8 s9 s11 s12 s14 s15 s16 s28 s30 s44 s56 s65 s68 s69 s70 s76 s78 => 
(qLenS s1 fun v48 =>
qAdd X 3 v48 (.int .i64 4) fun v49 =>
qRes (C 87 [s5, v49] H) fun v50 H =>
k [s0, s1, s4, s5, s6, s7, s8, s9, s11, s12, s14, s15, s16, s28, s30, s44, s56, s65, s68, s69, s70, s76, s78] H : R))
noncomputable def r104_10 (k : KT R) : KT R := fun fr H => opn 23 fr (fun s0 s1 s4 s5 s6 s7 s8 s9 s11 s12 s14 s15 s16 s28 s30 s44 s56 s65 s68 s69 s70 s76 s78 => 
(qNeq X 3 s9 (.int .i64 1) fun v39 =>
qG v39 true (fun k => k s8 H) H fun v41 H =>
qG v39 true (fun k => k s7 H) H fun v42 H =>
qG v39 true (fun k => qEql X 21 v41 v42 fun v => k v H) H fun v43 H =>
qPick v39 v43 (.bool false) fun v44 =>
k [s0, s1, s4, s5, s6, s7, s8, s9, s11, s12, s14, s15, s16, s28, s30, v44, s56, s65, s68, s69, s70, s76, s78] H : R))
noncomputable def r104_9 (C : CallF) (k : KT R) : KT R := fun fr H => opn 23 fr (fun s0 s1 s4 s5 s6 s7 s8 s9 s11 s12 s14 s15 s16 s28 s30 s44 s56 s65 s68 s69 s70 s76 s78 => 
(qSlc Tryd.t9.desc 0 s1 (some s6) none none fun v34 =>
qRes (C 100 [v34] H) fun v35 H =>
qExt v35 0 fun v36 =>
qExt v35 1 fun v37 =>
k [s0, s1, s4, s5, s6, v36, s8, v37, s11, s12, s14, s15, s16, s28, s30, s44, s56, s65, s68, s69, s70, s76, s78] H : R))
noncomputable def r104_11 (C : CallF) (k : KT R) : KT R := fun fr H => opn 23 fr (fun s0 s1 s4 s5 s6 s7 s8 s9 s11 s12 s14 s15 s16 s28 s30 s44 s56 s65 s68 s69 s70 s76 s78 => 
(qRes (C 111 [s7] H) fun v46 H =>
k [s0, s1, s4, s5, s6, s7, s8, v46, s11, s12, s14, s15, s16, s28, s30, s44, s56, s65, s68, s69, s70, s76, s78] H : R))
noncomputable def r104_8 (k : KT R) : KT R := fun fr H => opn 23 fr (fun s0 s1 s4 s5 s6 s7 s8 s9 s11 s12 s14 s15 s16 s28 s30 s44 s56 s65 s68 s69 s70 s76 s78 => 
(qEql X 21 s7 (.int .i32 65533) fun v30 =>
k [s0, s1, s4, s5, s6, s7, s8, s9, s11, s12, s14, s15, s16, s28, v30, s44, s56, s65, s68, s69, s70, s76, s78] H : R))
noncomputable def r104_7 (k : KT R) : KT R := fun fr H => opn 23 fr (fun s0 s1 s4 s5 s6 s7 s8 s9 s11 s12 s14 s15 s16 s28 s30 s44 s56 s65 s68 s69 s70 s76 s78 => 
(k [s0, s1, s4, s5, s6, s7, s8, (.int .i64 0), s11, s12, s14, s15, s16, s28, s30, s44, s56, s65, s68, s69, s70, s76, s78] H : R))
noncomputable def r104_6 (k : KT R) : KT R := fun fr H => opn 23 fr (fun s0 s1 s4 s5 s6 s7 s8 s9 s11 s12 s14 s15 s16 s28 s30 s44 s56 s65 s68 s69 s70 s76 s78 => 
(qEql X 21 s8 s7 fun v24 =>
qG v24 true (fun k => k s7 H) H fun v26 H =>
qG v24 true (fun k => qNeq X 21 v26 (.int .i32 65533) fun v => k v H) H fun v27 H =>
qPick v24 v27 (.bool false) fun v28 =>
k [s0, s1, s4, s5, s6, s7, s8, s9, s11, s12, s14, s15, s16, v28, s30, s44, s56, s65, s68, s69, s70, s76, s78] H : R))
noncomputable def r104_5 (C : CallF) (k : KT R) : KT R := fun fr H => opn 23 fr (fun s0 s1 s4 s5 s6 s7 s8 s9 s11 s12 s14 s15 s16 s28 s30 s44 s56 s65 s68 s69 s70 s76 s78 => 
(qCallV C s0 [s7] H fun v21 H =>
k [s0, s1, s4, s5, s6, s7, v21, s9, s11, s12, s14, s15, s16, s28, s30, s44, s56, s65, s68, s69, s70, s76, s78] H : R))
noncomputable def r104_4 (k : KT R) : KT R := fun fr H => opn 23 fr (fun s0 s1 s4 s5 s6 s7 s8 s9 s11 s12 s14 s15 s16 s28 s30 s44 s56 s65 s68 s69 s70 s76 s78 => 
(qExt s15 1 fun v17 =>
qExt s15 2 fun v18 =>
k [s0, s1, s4, s5, v17, v18, s8, s9, s11, s12, s14, s15, s16, s28, s30, s44, s56, s65, s68, s69, s70, s76, s78] H : R))
noncomputable def r104_3 (k : KT R) : KT R := fun fr H => opn 23 fr (fun s0 s1 s4 s5 s6 s7 s8 s9 s11 s12 s14 s15 s16 s28 s30 s44 s56 s65 s68 s69 s70 s76 s78 => 
(qNext s14 H fun v15 H =>
qExt v15 0 fun v16 =>
k [s0, s1, s4, s5, s6, s7, s8, s9, s11, s12, s14, v15, v16, s28, s30, s44, s56, s65, s68, s69, s70, s76, s78] H : R))
noncomputable def l104_15 (C : CallF) (k8 : KT R) : KT R → KT R := fun k9 => (r104_3 (qCd (sel 12) (fun k15 => k15) (fun _ => k8) (qBl (fun k10 => (r104_4 (r104_5 C (r104_6 (qCd (sel 13) (fun _ => k10) (fun k14 => k14) (r104_7 (r104_8 (qCd (sel 14) (fun k12 => (r104_9 C (r104_10 (qCd (sel 15) (fun _ => k10) (fun k13 => k13) k12)))) (fun k12 => (r104_11 C k12)) (r104_12 C (r104_13 C (r104_14 (qCd (sel 16) (fun k11 => (r104_15 C k11)) (fun k11 => k11) (r104_16 k8))))))))))))) k9)))
noncomputable def r104_2 (k : KT R) : KT R := fun fr H => opn 23 fr (fun s0 s1 s4 s5 s6 s7 s8 s9 s11 s12 s14 s15 s16 s28 s30 s44 s56 s65 s68 s69 s70 s76 s78 => 
(qRange s1 H fun v14 H =>
k [s0, s1, s4, s5, s6, s7, s8, s9, s11, s12, v14, s15, s16, s28, s30, s44, s56, s65, s68, s69, s70, s76, s78] H : R))
noncomputable def r104_1 (k : KT R) : KT R := fun fr H => opn 23 fr (fun s0 s1 s4 s5 s6 s7 s8 s9 s11 s12 s14 s15 s16 s28 s30 s44 s56 s65 s68 s69 s70 s76 s78 => 
(qNew (.obj 63 0 z63) .ptr H fun v5 H =>
k [s0, s1, s4, v5, s6, s7, s8, s9, s11, s12, s14, s15, s16, s28, s30, s44, s56, s65, s68, s69, s70, s76, s78] H : R))
noncomputable def r104_0 (k : KT R) : KT R := fun fr H => opn 23 fr (fun s0 s1 s4 s5 s6 s7 s8 s9 s11 s12 s14 s15 s16 s28 s30 s44 s56 s65 s68 s69 s70 s76 s78 => 
(k [s0, s1, (.str []), s5, s6, s7, s8, s9, s11, s12, s14, s15, s16, s28, s30, s44, s56, s65, s68, s69, s70, s76, s78] H : R))
noncomputable def c104 (C : CallF) (l0 : List AV) (H : AH) (k : AV → AH → R) : R := opn 2 l0 (fun x0 x1 => (qFn (fun kr => (r104_0 (r104_1 (r104_2 (qBl (fun k8 => (qLoop (l104_15 C k8))) (r104_17 C (qCd (sel 17) (fun _ => (r104_18 kr)) (fun k7 => k7) (r104_19 (qBl (fun k1 => (qLoop (l104_6 C k1))) (r104_27 C kr))))))))))
(fun fr H => k (sel 2 fr) H) [x0, x1, Aes.undef, Aes.undef, Aes.undef, Aes.undef, Aes.undef, Aes.undef, Aes.undef, Aes.undef, Aes.undef, Aes.undef, Aes.undef, Aes.undef, Aes.undef, Aes.undef, Aes.undef, Aes.undef, Aes.undef, Aes.undef, Aes.undef, Aes.undef, Aes.undef] H : R))
/- unicode.ToLower -/
noncomputable def r105_5 (C : CallF) (k : KT R) : KT R := fun fr H => opn 4 fr (fun s0 s2 s4 s10 => 
(qRes (C 113 [(.int .i64 1), s0] H) fun v15 H =>
k [s0, v15, s4, s10] H : R))
noncomputable def r105_4 (k : KT R) : KT R := fun fr H => opn 4 fr (fun s0 s2 s4 s10 => 
(k [s0, s0, s4, s10] H : R))
noncomputable def r105_3 (k : KT R) : KT R := fun fr H => opn 4 fr (fun s0 s2 s4 s10 => 
(qAdd X 21 s0 (.int .i32 32) fun v12 =>
k [v12, s2, s4, s10] H : R))
noncomputable def r105_2 (k : KT R) : KT R := fun fr H => opn 4 fr (fun s0 s2 s4 s10 => 
(qLeq X 21 (.int .i32 65) s0 fun v6 =>
qG v6 true (fun k => k s0 H) H fun v8 H =>
qG v6 true (fun k => qLeq X 21 v8 (.int .i32 90) fun v => k v H) H fun v9 H =>
qPick v6 v9 (.bool false) fun v10 =>
k [s0, s2, s4, v10] H : R))
noncomputable def r105_1 (k : KT R) : KT R := fun fr H => opn 4 fr (fun s0 s2 s4 s10 => 
(qLeq X 21 s0 (.int .i32 127) fun v4 =>
k [s0, s2, v4, s10] H : R))
noncomputable def r105_0 (k : KT R) : KT R := fun fr H => opn 4 fr (fun s0 s2 s4 s10 => 
(k [s0, (.int .i32 0), s4, s10] H : R))
noncomputable def c105 (C : CallF) (l0 : List AV) (H : AH) (k : AV → AH → R) : R := opn 1 l0 (fun x0 => (qFn (fun kr => (r105_0 (r105_1 (qCd (sel 2) (fun _ => (r105_2 (qCd (sel 3) (fun k2 => (r105_3 k2)) (fun k2 => k2) (r105_4 kr)))) (fun k1 => k1) (r105_5 C kr)))))
(fun fr H => k (sel 1 fr) H) [x0, Aes.undef, Aes.undef, Aes.undef] H : R))
/- unicode/utf8.RuneLen -/
noncomputable def r111_13 (k : KT R) : KT R := fun fr H => opn 8 fr (fun s0 s2 s3 s6 s9 s12 s19 s22 => 
(k [s0, (.int .i64 (-1)), s3, s6, s9, s12, s19, s22] H : R))
noncomputable def r111_2 (k : KT R) : KT R := fun fr H => opn 8 fr (fun s0 s2 s3 s6 s9 s12 s19 s22 => 
(k [s0, (.int .i64 (-1)), s3, s6, s9, s12, s19, s22] H : R))
noncomputable def r111_4 (k : KT R) : KT R := fun fr H => opn 8 fr (fun s0 s2 s3 s6 s9 s12 s19 s22 => 
(k [s0, (.int .i64 1), s3, s6, s9, s12, s19, s22] H : R))
noncomputable def r111_6 (k : KT R) : KT R := fun fr H => opn 8 fr (fun s0 s2 s3 s6 s9 s12 s19 s22 => 
(k [s0, (.int .i64 2), s3, s6, s9, s12, s19, s22] H : R))
noncomputable def r111_8 (k : KT R) : KT R := fun fr H => opn 8 fr (fun s0 s2 s3 s6 s9 s12 s19 s22 => 
(k [s0, (.int .i64 (-1)), s3, s6, s9, s12, s19, s22] H : R))
noncomputable def r111_10 (k : KT R) : KT R := fun fr H => opn 8 fr (fun s0 s2 s3 s6 s9 s12 s19 s22 => 
(k [s0, (.int .i64 3), s3, s6, s9, s12, s19, s22] H : R))
noncomputable def r111_12 (k : KT R) : KT R := fun fr H => opn 8 fr (fun s0 s2 s3 s6 s9 s12 s19 s22 => 
(k [s0, (.int .i64 4), s3, s6, s9, s12, s19, s22] H : R))
noncomputable def r111_11 (k : KT R) : KT R := fun fr H => opn 8 fr (fun s0 s2 s3 s6 s9 s12 s19 s22 => 
(qLeq X 21 s0 (.int .i32 1114111) fun v24 =>
k [s0, s2, s3, s6, s9, s12, s19, v24] H : R))
noncomputable def r111_9 (k : KT R) : KT R := fun fr H => opn 8 fr (fun s0 s2 s3 s6 s9 s12 s19 s22 => 
(qLeq X 21 s0 (.int .i32 65535) fun v21 =>
k [s0, s2, s3, s6, s9, s12, v21, s22] H : R))
noncomputable def r111_7 (k : KT R) : KT R := fun fr H => opn 8 fr (fun s0 s2 s3 s6 s9 s12 s19 s22 => 
(qLeq X 21 (.int .i32 55296) s0 fun v14 =>
qG v14 true (fun k => k s0 H) H fun v16 H =>
qG v14 true (fun k => qLeq X 21 v16 (.int .i32 57343) fun v => k v H) H fun v17 H =>
qPick v14 v17 (.bool false) fun v18 =>
k [s0, s2, s3, s6, s9, v18, s19, s22] H : R))
noncomputable def r111_5 (k : KT R) : KT R := fun fr H => opn 8 fr (fun s0 s2 s3 s6 s9 s12 s19 s22 => 
(qLeq X 21 s0 (.int .i32 2047) fun v11 =>
k [s0, s2, s3, s6, v11, s12, s19, s22] H : R))
noncomputable def r111_3 (k : KT R) : KT R := fun fr H => opn 8 fr (fun s0 s2 s3 s6 s9 s12 s19 s22 => 
(qLeq X 21 s0 (.int .i32 127) fun v8 =>
k [s0, s2, s3, v8, s9, s12, s19, s22] H : R))
noncomputable def r111_1 (k : KT R) : KT R := fun fr H => opn 8 fr (fun s0 s2 s3 s6 s9 s12 s19 s22 => 
(qLss X 21 s0 (.int .i32 0) fun v5 =>
k [s0, s2, v5, s6, s9, s12, s19, s22] H : R))
noncomputable def r111_0 (k : KT R) : KT R := fun fr H => opn 8 fr (fun s0 s2 s3 s6 s9 s12 s19 s22 => 
(k [s0, (.int .i64 0), s3, s6, s9, s12, s19, s22] H : R))
noncomputable def c111 (C : CallF) (l0 : List AV) (H : AH) (k : AV → AH → R) : R := opn 1 l0 (fun x0 => (qFn (fun kr => (r111_0 (qBl (fun k1 => (r111_1 (qCd (sel 2) (fun _ => (r111_2 kr)) (fun k2 => (r111_3 (qCd (sel 3) (fun _ => (r111_4 kr)) (fun k3 => (r111_5 (qCd (sel 4) (fun _ => (r111_6 kr)) (fun k4 => (r111_7 (qCd (sel 5) (fun _ => (r111_8 kr)) (fun k5 => (r111_9 (qCd (sel 6) (fun _ => (r111_10 kr)) (fun k6 => (r111_11 (qCd (sel 7) (fun _ => (r111_12 kr)) (fun k7 => k7) k6))) k5))) k4))) k3))) k2))) k1))) (r111_13 kr))))
(fun fr H => k (sel 1 fr) H) [x0, Aes.undef, Aes.undef, Aes.undef, Aes.undef, Aes.undef, Aes.undef, Aes.undef] H : R))
end
theorem e2 {R : Type} [Mon R] : hFn (R := R) X 2 Tryd.f2 0 [] = c2 := by kernel_rfl
theorem xf2 : X.fn 2 = some Tryd.f2 := by kernel_rfl
theorem e3 {R : Type} [Mon R] : hFn (R := R) X 3 Tryd.f3 3 [0, 1, 2, 3, 4, 6, 7, 8, 9, 10, 11, 12, 13, 14, 27] = c3 := by kernel_rfl
theorem xf3 : X.fn 3 = some Tryd.f3 := by kernel_rfl
theorem e4 {R : Type} [Mon R] : hFn (R := R) X 4 Tryd.f4 2 [0, 1, 4, 5, 7, 9, 10, 18] = c4 := by kernel_rfl
theorem xf4 : X.fn 4 = some Tryd.f4 := by kernel_rfl
theorem e5 {R : Type} [Mon R] : hFn (R := R) X 5 Tryd.f5 2 [0, 1, 4, 5, 7, 10, 19, 27, 29, 31, 36, 42, 45, 51, 57, 63, 69] = c5 := by kernel_rfl
theorem xf5 : X.fn 5 = some Tryd.f5 := by kernel_rfl
theorem e6 {R : Type} [Mon R] : hFn (R := R) X 6 Tryd.f6 4 [0, 1, 2, 3, 8, 9, 10, 11, 12, 13, 14, 15, 16, 17, 18, 19, 21, 23, 25, 35, 96, 131, 132, 133, 134, 148] = c6 := by kernel_rfl
theorem xf6 : X.fn 6 = some Tryd.f6 := by kernel_rfl
theorem e7 {R : Type} [Mon R] : hFn (R := R) X 7 Tryd.f7 2 [0, 1, 4, 5, 6, 7, 9, 12, 18, 40] = c7 := by kernel_rfl
theorem xf7 : X.fn 7 = some Tryd.f7 := by kernel_rfl
theorem e12 {R : Type} [Mon R] : hFn (R := R) X 12 Tryd.f12 2 [0, 1, 4, 5, 6, 7, 8, 9, 10, 11, 12, 13, 26, 43] = c12 := by kernel_rfl
theorem xf12 : X.fn 12 = some Tryd.f12 := by kernel_rfl
theorem e14 {R : Type} [Mon R] : hFn (R := R) X 14 Tryd.f14 0 [0, 1, 2, 3] = c14 := by kernel_rfl
theorem xf14 : X.fn 14 = some Tryd.f14 := by kernel_rfl
theorem e15 {R : Type} [Mon R] : hFn (R := R) X 15 Tryd.f15 1 [0, 2, 3, 4, 5, 6, 7, 8, 11, 26, 37, 41, 52, 62, 68] = c15 := by kernel_rfl
theorem xf15 : X.fn 15 = some Tryd.f15 := by kernel_rfl
theorem e17 {R : Type} [Mon R] : hFn (R := R) X 17 Tryd.f17 2 [0, 1, 2, 4, 5, 6, 7, 9, 10, 11, 12, 30] = c17 := by kernel_rfl
theorem xf17 : X.fn 17 = some Tryd.f17 := by kernel_rfl
theorem e19 {R : Type} [Mon R] : hFn (R := R) X 19 Tryd.f19 1 [0, 1, 2] = c19 := by kernel_rfl
theorem xf19 : X.fn 19 = some Tryd.f19 := by kernel_rfl
theorem e21 {R : Type} [Mon R] : hFn (R := R) X 21 Tryd.f21 1 [0, 1, 2, 3, 6] = c21 := by kernel_rfl
theorem xf21 : X.fn 21 = some Tryd.f21 := by kernel_rfl
theorem e23 {R : Type} [Mon R] : hFn (R := R) X 23 Tryd.f23 2 [0, 1, 2, 3, 4, 5, 6, 7, 8, 38, 40, 41, 42, 43, 53, 56, 57, 58, 59, 70] = c23 := by kernel_rfl
theorem xf23 : X.fn 23 = some Tryd.f23 := by kernel_rfl
theorem e26 {R : Type} [Mon R] : hFn (R := R) X 26 Tryd.f26 2 [0, 1, 4, 5, 10] = c26 := by kernel_rfl
theorem xf26 : X.fn 26 = some Tryd.f26 := by kernel_rfl
theorem e27 {R : Type} [Mon R] : hFn (R := R) X 27 Tryd.f27 1 [0, 2] = c27 := by kernel_rfl
theorem xf27 : X.fn 27 = some Tryd.f27 := by kernel_rfl
theorem e28 {R : Type} [Mon R] : hFn (R := R) X 28 Tryd.f28 0 [0, 1, 2] = c28 := by kernel_rfl
theorem xf28 : X.fn 28 = some Tryd.f28 := by kernel_rfl
theorem e29 {R : Type} [Mon R] : hFn (R := R) X 29 Tryd.f29 1 [0, 2, 3, 5, 6, 9, 12, 13, 14, 20, 31] = c29 := by kernel_rfl
theorem xf29 : X.fn 29 = some Tryd.f29 := by kernel_rfl
theorem e30 {R : Type} [Mon R] : hFn (R := R) X 30 Tryd.f30 1 [0, 2] = c30 := by kernel_rfl
theorem xf30 : X.fn 30 = some Tryd.f30 := by kernel_rfl
theorem e31 {R : Type} [Mon R] : hFn (R := R) X 31 Tryd.f31 1 [0, 2, 3, 4, 5, 6, 7, 8, 9, 10, 31, 38, 39, 40, 49, 55, 59, 66, 71, 77, 92] = c31 := by kernel_rfl
theorem xf31 : X.fn 31 = some Tryd.f31 := by kernel_rfl
theorem e32 {R : Type} [Mon R] : hFn (R := R) X 32 Tryd.f32 2 [0, 1, 3] = c32 := by kernel_rfl
theorem xf32 : X.fn 32 = some Tryd.f32 := by kernel_rfl
theorem e33 {R : Type} [Mon R] : hFn (R := R) X 33 Tryd.f33 1 [0, 2, 3, 4, 5, 7, 8, 9, 43] = c33 := by kernel_rfl
theorem xf33 : X.fn 33 = some Tryd.f33 := by kernel_rfl
theorem e35 {R : Type} [Mon R] : hFn (R := R) X 35 Tryd.f35 1 [0, 2, 3, 5, 9, 17] = c35 := by kernel_rfl
theorem xf35 : X.fn 35 = some Tryd.f35 := by kernel_rfl
theorem e36 {R : Type} [Mon R] : hFn (R := R) X 36 Tryd.f36 1 [0, 2, 3, 7, 25] = c36 := by kernel_rfl
theorem xf36 : X.fn 36 = some Tryd.f36 := by kernel_rfl
theorem e37 {R : Type} [Mon R] : hFn (R := R) X 37 Tryd.f37 1 [0, 2, 3, 4, 5, 8, 12, 25, 40, 51] = c37 := by kernel_rfl
theorem xf37 : X.fn 37 = some Tryd.f37 := by kernel_rfl
theorem e38 {R : Type} [Mon R] : hFn (R := R) X 38 Tryd.f38 1 [0, 2, 3, 4, 6, 7, 8, 9, 15, 16, 17, 18, 35, 40, 41, 42, 73, 88] = c38 := by kernel_rfl
theorem xf38 : X.fn 38 = some Tryd.f38 := by kernel_rfl
theorem e39 {R : Type} [Mon R] : hFn (R := R) X 39 Tryd.f39 1 [0, 2, 3, 4, 5, 6, 7, 8, 9, 15, 38, 47, 78, 100, 109, 113] = c39 := by kernel_rfl
theorem xf39 : X.fn 39 = some Tryd.f39 := by kernel_rfl
theorem e40 {R : Type} [Mon R] : hFn (R := R) X 40 Tryd.f40 2 [0, 1, 4] = c40 := by kernel_rfl
theorem xf40 : X.fn 40 = some Tryd.f40 := by kernel_rfl
theorem e41 {R : Type} [Mon R] : hFn (R := R) X 41 Tryd.f41 1 [0, 2] = c41 := by kernel_rfl
theorem xf41 : X.fn 41 = some Tryd.f41 := by kernel_rfl
theorem e42 {R : Type} [Mon R] : hFn (R := R) X 42 Tryd.f42 2 [0, 1, 4, 5] = c42 := by kernel_rfl
theorem xf42 : X.fn 42 = some Tryd.f42 := by kernel_rfl
theorem e43 {R : Type} [Mon R] : hFn (R := R) X 43 Tryd.f43 2 [0, 1, 4] = c43 := by kernel_rfl
theorem xf43 : X.fn 43 = some Tryd.f43 := by kernel_rfl
theorem e45 {R : Type} [Mon R] : hFn (R := R) X 45 Tryd.f45 2 [0, 1, 2, 4, 5, 6, 7, 9, 11, 23, 24, 32, 45, 65, 73, 83, 84, 103, 105, 106, 107, 108, 115] = c45 := by kernel_rfl
theorem xf45 : X.fn 45 = some Tryd.f45 := by kernel_rfl
theorem e47 {R : Type} [Mon R] : hFn (R := R) X 47 Tryd.f47 2 [0, 1, 3, 4, 5, 6, 8, 13, 17, 24, 29, 35, 36, 37, 38, 43, 48] = c47 := by kernel_rfl
theorem xf47 : X.fn 47 = some Tryd.f47 := by kernel_rfl
theorem e50 {R : Type} [Mon R] : hFn (R := R) X 50 Tryd.f50 1 [0, 2, 3, 4, 18, 28] = c50 := by kernel_rfl
theorem xf50 : X.fn 50 = some Tryd.f50 := by kernel_rfl
theorem e51 {R : Type} [Mon R] : hFn (R := R) X 51 Tryd.f51 2 [0, 1, 4] = c51 := by kernel_rfl
theorem xf51 : X.fn 51 = some Tryd.f51 := by kernel_rfl
theorem e52 {R : Type} [Mon R] : hFn (R := R) X 52 Tryd.f52 2 [0, 1, 4, 5, 6, 7, 8, 9, 10, 11, 12, 13, 14, 15, 16, 26, 33, 43, 51, 64, 98, 108, 124, 139, 143, 156, 160, 171, 175, 176, 177, 181, 183] = c52 := by kernel_rfl
theorem xf52 : X.fn 52 = some Tryd.f52 := by kernel_rfl
theorem e53 {R : Type} [Mon R] : hFn (R := R) X 53 Tryd.f53 2 [0, 1, 4, 5] = c53 := by kernel_rfl
theorem xf53 : X.fn 53 = some Tryd.f53 := by kernel_rfl
theorem e54 {R : Type} [Mon R] : hFn (R := R) X 54 Tryd.f54 2 [0, 1, 4, 5, 6] = c54 := by kernel_rfl
theorem xf54 : X.fn 54 = some Tryd.f54 := by kernel_rfl
theorem e56 {R : Type} [Mon R] : hFn (R := R) X 56 Tryd.f56 1 [0, 2, 3, 4, 5, 13, 22, 31] = c56 := by kernel_rfl
theorem xf56 : X.fn 56 = some Tryd.f56 := by kernel_rfl
theorem e58 {R : Type} [Mon R] : hFn (R := R) X 58 Tryd.f58 2 [0, 1, 4, 5, 6, 7, 8, 9, 14, 18, 27, 36, 50, 53, 62, 98] = c58 := by kernel_rfl
theorem xf58 : X.fn 58 = some Tryd.f58 := by kernel_rfl
theorem e59 {R : Type} [Mon R] : hFn (R := R) X 59 Tryd.f59 1 [0, 2] = c59 := by kernel_rfl
theorem xf59 : X.fn 59 = some Tryd.f59 := by kernel_rfl
theorem e60 {R : Type} [Mon R] : hFn (R := R) X 60 Tryd.f60 1 [0, 2] = c60 := by kernel_rfl
theorem xf60 : X.fn 60 = some Tryd.f60 := by kernel_rfl
theorem e61 {R : Type} [Mon R] : hFn (R := R) X 61 Tryd.f61 1 [0, 2, 3, 4, 6, 8, 10, 12] = c61 := by kernel_rfl
theorem xf61 : X.fn 61 = some Tryd.f61 := by kernel_rfl
theorem e64 {R : Type} [Mon R] : hFn (R := R) X 64 Tryd.f64 1 [0, 2] = c64 := by kernel_rfl
theorem xf64 : X.fn 64 = some Tryd.f64 := by kernel_rfl
theorem e65 {R : Type} [Mon R] : hFn (R := R) X 65 Tryd.f65 1 [0, 2] = c65 := by kernel_rfl
theorem xf65 : X.fn 65 = some Tryd.f65 := by kernel_rfl
theorem e67 {R : Type} [Mon R] : hFn (R := R) X 67 Tryd.f67 1 [0, 2, 3, 4, 5, 9, 21, 46] = c67 := by kernel_rfl
theorem xf67 : X.fn 67 = some Tryd.f67 := by kernel_rfl
theorem e68 {R : Type} [Mon R] : hFn (R := R) X 68 Tryd.f68 1 [0, 2, 3, 19] = c68 := by kernel_rfl
theorem xf68 : X.fn 68 = some Tryd.f68 := by kernel_rfl
theorem e69 {R : Type} [Mon R] : hFn (R := R) X 69 Tryd.f69 2 [0, 1, 4, 7] = c69 := by kernel_rfl
theorem xf69 : X.fn 69 = some Tryd.f69 := by kernel_rfl
theorem e70 {R : Type} [Mon R] : hFn (R := R) X 70 Tryd.f70 2 [0, 1, 4, 5, 6, 12, 21, 31] = c70 := by kernel_rfl
theorem xf70 : X.fn 70 = some Tryd.f70 := by kernel_rfl
theorem e71 {R : Type} [Mon R] : hFn (R := R) X 71 Tryd.f71 2 [0, 1, 4, 5, 9] = c71 := by kernel_rfl
theorem xf71 : X.fn 71 = some Tryd.f71 := by kernel_rfl
theorem e72 {R : Type} [Mon R] : hFn (R := R) X 72 Tryd.f72 2 [0, 1, 4] = c72 := by kernel_rfl
theorem xf72 : X.fn 72 = some Tryd.f72 := by kernel_rfl
theorem e73 {R : Type} [Mon R] : hFn (R := R) X 73 Tryd.f73 1 [0, 2, 3, 5, 7, 8, 9, 10, 20] = c73 := by kernel_rfl
theorem xf73 : X.fn 73 = some Tryd.f73 := by kernel_rfl
theorem e76 {R : Type} [Mon R] : hFn (R := R) X 76 Tryd.f76 1 [0, 2, 3, 10] = c76 := by kernel_rfl
theorem xf76 : X.fn 76 = some Tryd.f76 := by kernel_rfl
theorem e77 {R : Type} [Mon R] : hFn (R := R) X 77 Tryd.f77 1 [0, 2] = c77 := by kernel_rfl
theorem xf77 : X.fn 77 = some Tryd.f77 := by kernel_rfl
theorem e79 {R : Type} [Mon R] : hFn (R := R) X 79 Tryd.f79 2 [0, 1, 4, 7] = c79 := by kernel_rfl
theorem xf79 : X.fn 79 = some Tryd.f79 := by kernel_rfl
theorem e81 {R : Type} [Mon R] : hFn (R := R) X 81 Tryd.f81 1 [0, 2, 3, 5, 6, 9, 13, 14, 15, 20] = c81 := by kernel_rfl
theorem xf81 : X.fn 81 = some Tryd.f81 := by kernel_rfl
theorem e82 {R : Type} [Mon R] : hFn (R := R) X 82 Tryd.f82 2 [0, 1, 4] = c82 := by kernel_rfl
theorem xf82 : X.fn 82 = some Tryd.f82 := by kernel_rfl
theorem e88 {R : Type} [Mon R] : hFn (R := R) X 88 Tryd.f88 2 [0, 1, 4] = c88 := by kernel_rfl
theorem xf88 : X.fn 88 = some Tryd.f88 := by kernel_rfl
theorem e89 {R : Type} [Mon R] : hFn (R := R) X 89 Tryd.f89 2 [0, 1, 4, 13] = c89 := by kernel_rfl
theorem xf89 : X.fn 89 = some Tryd.f89 := by kernel_rfl
theorem e90 {R : Type} [Mon R] : hFn (R := R) X 90 Tryd.f90 1 [0, 2, 3, 4, 5, 9, 16] = c90 := by kernel_rfl
theorem xf90 : X.fn 90 = some Tryd.f90 := by kernel_rfl
theorem e91 {R : Type} [Mon R] : hFn (R := R) X 91 Tryd.f91 2 [0, 1, 4, 7, 12] = c91 := by kernel_rfl
theorem xf91 : X.fn 91 = some Tryd.f91 := by kernel_rfl
theorem e92 {R : Type} [Mon R] : hFn (R := R) X 92 Tryd.f92 2 [0, 1, 4, 5, 6, 9, 18] = c92 := by kernel_rfl
theorem xf92 : X.fn 92 = some Tryd.f92 := by kernel_rfl
theorem e95 {R : Type} [Mon R] : hFn (R := R) X 95 Tryd.f95 2 [0, 1, 4, 5, 11, 25, 50] = c95 := by kernel_rfl
theorem xf95 : X.fn 95 = some Tryd.f95 := by kernel_rfl
theorem e96 {R : Type} [Mon R] : hFn (R := R) X 96 Tryd.f96 1 [0, 2, 3, 4, 5, 6, 7, 8, 9, 10, 14, 21, 31, 33, 41, 52, 57, 70] = c96 := by kernel_rfl
theorem xf96 : X.fn 96 = some Tryd.f96 := by kernel_rfl
theorem e100 {R : Type} [Mon R] : hFn (R := R) X 100 Tryd.f100 1 [0, 2, 3, 10] = c100 := by kernel_rfl
theorem xf100 : X.fn 100 = some Tryd.f100 := by kernel_rfl
theorem e102 {R : Type} [Mon R] : hFn (R := R) X 102 Tryd.f102 2 [0, 1, 4] = c102 := by kernel_rfl
theorem xf102 : X.fn 102 = some Tryd.f102 := by kernel_rfl
theorem e103 {R : Type} [Mon R] : hFn (R := R) X 103 Tryd.f103 2 [0, 1, 4] = c103 := by kernel_rfl
theorem xf103 : X.fn 103 = some Tryd.f103 := by kernel_rfl
theorem e104 {R : Type} [Mon R] : hFn (R := R) X 104 Tryd.f104 2 [0, 1, 4, 5, 6, 7, 8, 9, 11, 12, 14, 15, 16, 28, 30, 44, 56, 65, 68, 69, 70, 76, 78] = c104 := by kernel_rfl
theorem xf104 : X.fn 104 = some Tryd.f104 := by kernel_rfl
theorem e105 {R : Type} [Mon R] : hFn (R := R) X 105 Tryd.f105 1 [0, 2, 4, 10] = c105 := by kernel_rfl
theorem xf105 : X.fn 105 = some Tryd.f105 := by kernel_rfl
theorem e111 {R : Type} [Mon R] : hFn (R := R) X 111 Tryd.f111 1 [0, 2, 3, 6, 9, 12, 19, 22] = c111 := by kernel_rfl
theorem xf111 : X.fn 111 = some Tryd.f111 := by kernel_rfl
end T
