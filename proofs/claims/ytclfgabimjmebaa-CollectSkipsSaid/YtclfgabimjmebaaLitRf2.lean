import Derived.Test.YtclfgabimjmebaaLitRf1
set_option linter.all false
set_option maxRecDepth 100000
set_option linter.unusedVariables false
open Go Go.Aes Go.Proofs
namespace T
section
variable {R : Type} [Mon R]
/- refectory/refectoryref01.rune1 -/
noncomputable def r80_22 (k : KT R) : KT R := fun fr H => opn 16 fr (fun s0 s1 s4 s5 s6 s7 s8 s9 s14 s18 s27 s36 s50 s53 s62 s98 => 
(k [s0, s1, s8, s7, s6, s7, s8, s9, s14, s18, s27, s36, s50, s53, s62, s98] H : R))
noncomputable def r80_21 (k : KT R) : KT R := fun fr H => opn 16 fr (fun s0 s1 s4 s5 s6 s7 s8 s9 s14 s18 s27 s36 s50 s53 s62 s98 => 
(k [s0, s1, (.int .i64 0), (.int .i64 0), s6, s7, s8, s9, s14, s18, s27, s36, s50, s53, s62, s98] H : R))
noncomputable def r80_20 (k : KT R) : KT R := fun fr H => opn 16 fr (fun s0 s1 s4 s5 s6 s7 s8 s9 s14 s18 s27 s36 s50 s53 s62 s98 => 
(qEql X 3 s7 (.int .i64 3) fun v74 =>
qG v74 true (fun k => k s8 H) H fun v76 H =>
qG v74 true (fun k => qLss X 3 v76 (.int .i64 2048) fun v => k v H) H fun v77 H =>
qPick v74 v77 (.bool false) fun v78 =>
qG v78 false (fun k => k s7 H) H fun v80 H =>
qG v78 false (fun k => qEql X 3 v80 (.int .i64 4) fun v => k v H) H fun v81 H =>
qG v78 false (fun k => k v81 H) H fun v82 H =>
qG v82 true (fun k => k s8 H) H fun v83 H =>
qG v82 true (fun k => qLss X 3 v83 (.int .i64 65536) fun v => k v H) H fun v84 H =>
qG v82 true (fun k => k v84 H) H fun v85 H =>
qG v85 false (fun k => k s8 H) H fun v86 H =>
qG v85 false (fun k => qGtr X 3 v86 (.int .i64 1114111) fun v => k v H) H fun v87 H =>
qG v82 true (fun k => qPick v85 (.bool true) v87 fun v => k v H) H fun v88 H =>
qG v78 false (fun k => qPick v82 v88 (.bool false) fun v => k v H) H fun v89 H =>
qPick v78 (.bool true) v89 fun v90 =>
qG v90 false (fun k => k s8 H) H fun v92 H =>
qG v90 false (fun k => qGeq X 3 v92 (.int .i64 55296) fun v => k v H) H fun v93 H =>
qG v90 false (fun k => k v93 H) H fun v94 H =>
qG v94 true (fun k => k s8 H) H fun v95 H =>
qG v94 true (fun k => qLeq X 3 v95 (.int .i64 57343) fun v => k v H) H fun v96 H =>
qG v90 false (fun k => qPick v94 v96 (.bool false) fun v => k v H) H fun v97 H =>
qPick v90 (.bool true) v97 fun v98 =>
k [s0, s1, s4, s5, s6, s7, s8, s9, s14, s18, s27, s36, s50, s53, s62, v98] H : R))
noncomputable def r80_16 (k : KT R) : KT R := fun fr H => opn 16 fr (fun s0 s1 s4 s5 s6 s7 s8 s9 s14 s18 s27 s36 s50 s53 s62 s98 => 
(qAdd X 3 s9 (.int .i64 1) fun v55 =>
k [s0, s1, s4, s5, s6, s7, s8, v55, s14, s18, s27, s36, s50, s53, s62, s98] H : R))
noncomputable def r80_19 (k : KT R) : KT R := fun fr H => opn 16 fr (fun s0 s1 s4 s5 s6 s7 s8 s9 s14 s18 s27 s36 s50 s53 s62 s98 => 
(qO (binop X .shl 3 s8 (.int .u64 6)) fun v64 =>
qAdd X 3 s1 s9 fun v68 =>
qIx s0 v68 fun v69 =>
qO (binop X .and 5 v69 (.int .u8 63)) fun v70 =>
qConvI .i64 v70 fun v71 =>
qO (binop X .or 3 v64 v71) fun v72 =>
k [s0, s1, s4, s5, s6, s7, v72, s9, s14, s18, s27, s36, s50, s53, s62, s98] H : R))
noncomputable def r80_18 (k : KT R) : KT R := fun fr H => opn 16 fr (fun s0 s1 s4 s5 s6 s7 s8 s9 s14 s18 s27 s36 s50 s53 s62 s98 => 
(k [s0, s1, (.int .i64 0), (.int .i64 0), s6, s7, s8, s9, s14, s18, s27, s36, s50, s53, s62, s98] H : R))
noncomputable def r80_17 (k : KT R) : KT R := fun fr H => opn 16 fr (fun s0 s1 s4 s5 s6 s7 s8 s9 s14 s18 s27 s36 s50 s53 s62 s98 => 
(qAdd X 3 s1 s9 fun v59 =>
qIx s0 v59 fun v60 =>
qO (binop X .and 5 v60 (.int .u8 192)) fun v61 =>
qNeq X 5 v61 (.int .u8 128) fun v62 =>
k [s0, s1, s4, s5, s6, s7, s8, s9, s14, s18, s27, s36, s50, s53, v62, s98] H : R))
noncomputable def r80_15 (k : KT R) : KT R := fun fr H => opn 16 fr (fun s0 s1 s4 s5 s6 s7 s8 s9 s14 s18 s27 s36 s50 s53 s62 s98 => 
(qLss X 3 s9 s7 fun v53 =>
k [s0, s1, s4, s5, s6, s7, s8, s9, s14, s18, s27, s36, s50, v53, s62, s98] H : R))
noncomputable def l80_6 (k2 : KT R) (kr : KT R) : KT R → KT R := fun k3 => (r80_15 (qCd (sel 13) (fun k6 => k6) (fun _ => k2) (qBl (fun k4 => (r80_17 (qCd (sel 14) (fun _ => (r80_18 kr)) (fun k5 => k5) (r80_19 k4)))) (r80_16 k3))))
noncomputable def r80_14 (k : KT R) : KT R := fun fr H => opn 16 fr (fun s0 s1 s4 s5 s6 s7 s8 s9 s14 s18 s27 s36 s50 s53 s62 s98 => 
(k [s0, s1, s4, s5, s6, s7, s8, (.int .i64 1), s14, s18, s27, s36, s50, s53, s62, s98] H : R))
noncomputable def r80_13 (k : KT R) : KT R := fun fr H => opn 16 fr (fun s0 s1 s4 s5 s6 s7 s8 s9 s14 s18 s27 s36 s50 s53 s62 s98 => 
(k [s0, s1, (.int .i64 0), (.int .i64 0), s6, s7, s8, s9, s14, s18, s27, s36, s50, s53, s62, s98] H : R))
noncomputable def r80_12 (k : KT R) : KT R := fun fr H => opn 16 fr (fun s0 s1 s4 s5 s6 s7 s8 s9 s14 s18 s27 s36 s50 s53 s62 s98 => 
(qAdd X 3 s1 s7 fun v47 =>
qLenS s0 fun v49 =>
qGtr X 3 v47 v49 fun v50 =>
k [s0, s1, s4, s5, s6, s7, s8, s9, s14, s18, s27, s36, v50, s53, s62, s98] H : R))
noncomputable def r80_5 (k : KT R) : KT R := fun fr H => opn 16 fr (fun s0 s1 s4 s5 s6 s7 s8 s9 s14 s18 s27 s36 s50 s53 s62 s98 => 
(k [s0, s1, s6, (.int .i64 1), s6, s7, s8, s9, s14, s18, s27, s36, s50, s53, s62, s98] H : R))
noncomputable def r80_7 (k : KT R) : KT R := fun fr H => opn 16 fr (fun s0 s1 s4 s5 s6 s7 s8 s9 s14 s18 s27 s36 s50 s53 s62 s98 => 
(qO (binop X .and 3 s6 (.int .i64 31)) fun v26 =>
k [s0, s1, s4, s5, s6, (.int .i64 2), v26, s9, s14, s18, s27, s36, s50, s53, s62, s98] H : R))
noncomputable def r80_9 (k : KT R) : KT R := fun fr H => opn 16 fr (fun s0 s1 s4 s5 s6 s7 s8 s9 s14 s18 s27 s36 s50 s53 s62 s98 => 
(qO (binop X .and 3 s6 (.int .i64 15)) fun v35 =>
k [s0, s1, s4, s5, s6, (.int .i64 3), v35, s9, s14, s18, s27, s36, s50, s53, s62, s98] H : R))
noncomputable def r80_11 (k : KT R) : KT R := fun fr H => opn 16 fr (fun s0 s1 s4 s5 s6 s7 s8 s9 s14 s18 s27 s36 s50 s53 s62 s98 => 
(qO (binop X .and 3 s6 (.int .i64 7)) fun v44 =>
k [s0, s1, s4, s5, s6, (.int .i64 4), v44, s9, s14, s18, s27, s36, s50, s53, s62, s98] H : R))
noncomputable def r80_3 (k : KT R) : KT R := fun fr H => opn 16 fr (fun s0 s1 s4 s5 s6 s7 s8 s9 s14 s18 s27 s36 s50 s53 s62 s98 => 
(k [s0, s1, (.int .i64 0), (.int .i64 0), s6, s7, s8, s9, s14, s18, s27, s36, s50, s53, s62, s98] H : R))
noncomputable def r80_10 (k : KT R) : KT R := fun fr H => opn 16 fr (fun s0 s1 s4 s5 s6 s7 s8 s9 s14 s18 s27 s36 s50 s53 s62 s98 => 
(qGeq X 3 s6 (.int .i64 240) fun v38 =>
qG v38 true (fun k => k s6 H) H fun v40 H =>
qG v38 true (fun k => qLeq X 3 v40 (.int .i64 244) fun v => k v H) H fun v41 H =>
qPick v38 v41 (.bool false) fun v42 =>
k [s0, s1, s4, s5, s6, s7, s8, s9, s14, s18, s27, v42, s50, s53, s62, s98] H : R))
noncomputable def r80_8 (k : KT R) : KT R := fun fr H => opn 16 fr (fun s0 s1 s4 s5 s6 s7 s8 s9 s14 s18 s27 s36 s50 s53 s62 s98 => 
(qGeq X 3 s6 (.int .i64 224) fun v29 =>
qG v29 true (fun k => k s6 H) H fun v31 H =>
qG v29 true (fun k => qLeq X 3 v31 (.int .i64 239) fun v => k v H) H fun v32 H =>
qPick v29 v32 (.bool false) fun v33 =>
k [s0, s1, s4, s5, s6, s7, s8, s9, s14, s18, v33, s36, s50, s53, s62, s98] H : R))
noncomputable def r80_6 (k : KT R) : KT R := fun fr H => opn 16 fr (fun s0 s1 s4 s5 s6 s7 s8 s9 s14 s18 s27 s36 s50 s53 s62 s98 => 
(qGeq X 3 s6 (.int .i64 194) fun v20 =>
qG v20 true (fun k => k s6 H) H fun v22 H =>
qG v20 true (fun k => qLeq X 3 v22 (.int .i64 223) fun v => k v H) H fun v23 H =>
qPick v20 v23 (.bool false) fun v24 =>
k [s0, s1, s4, s5, s6, s7, s8, s9, s14, v24, s27, s36, s50, s53, s62, s98] H : R))
noncomputable def r80_4 (k : KT R) : KT R := fun fr H => opn 16 fr (fun s0 s1 s4 s5 s6 s7 s8 s9 s14 s18 s27 s36 s50 s53 s62 s98 => 
(qLss X 3 s6 (.int .i64 128) fun v16 =>
k [s0, s1, s4, s5, s6, s7, s8, s9, v16, s18, s27, s36, s50, s53, s62, s98] H : R))
noncomputable def r80_2 (k : KT R) : KT R := fun fr H => opn 16 fr (fun s0 s1 s4 s5 s6 s7 s8 s9 s14 s18 s27 s36 s50 s53 s62 s98 => 
(k [s0, s1, s4, s5, s6, (.int .i64 0), (.int .i64 0), s9, s14, s18, s27, s36, s50, s53, s62, s98] H : R))
noncomputable def r80_1 (k : KT R) : KT R := fun fr H => opn 16 fr (fun s0 s1 s4 s5 s6 s7 s8 s9 s14 s18 s27 s36 s50 s53 s62 s98 => 
(qIx s0 s1 fun v12 =>
qConvI .i64 v12 fun v13 =>
k [s0, s1, s4, s5, v13, s7, s8, s9, s14, s18, s27, s36, s50, s53, s62, s98] H : R))
noncomputable def r80_0 (k : KT R) : KT R := fun fr H => opn 16 fr (fun s0 s1 s4 s5 s6 s7 s8 s9 s14 s18 s27 s36 s50 s53 s62 s98 => 
(k [s0, s1, (.int .i64 0), (.int .i64 0), s6, s7, s8, s9, s14, s18, s27, s36, s50, s53, s62, s98] H : R))
noncomputable def c80 (C : CallF) (l0 : List AV) (H : AH) (k : AV → AH → R) : R := opn 2 l0 (fun x0 x1 => (qFn (fun kr => (r80_0 (r80_1 (r80_2 (qBl (fun k8 => (r80_4 (qCd (sel 8) (fun _ => (r80_5 kr)) (fun k9 => (r80_6 (qCd (sel 9) (fun k10 => (r80_7 k10)) (fun k10 => (r80_8 (qCd (sel 10) (fun k11 => (r80_9 k11)) (fun k11 => (r80_10 (qCd (sel 11) (fun k12 => (r80_11 k12)) (fun _ => (r80_3 kr)) k11))) k10))) k9))) k8))) (r80_12 (qCd (sel 12) (fun _ => (r80_13 kr)) (fun k7 => k7) (r80_14 (qBl (fun k2 => (qLoop (l80_6 k2 kr))) (r80_20 (qCd (sel 15) (fun _ => (r80_21 kr)) (fun k1 => k1) (r80_22 kr))))))))))))
(fun fr H => k (.tup [(sel 2 fr), (sel 3 fr)]) H) [x0, x1, Aes.undef, Aes.undef, Aes.undef, Aes.undef, Aes.undef, Aes.undef, Aes.undef, Aes.undef, Aes.undef, Aes.undef, Aes.undef, Aes.undef, Aes.undef, Aes.undef] H : R))
/- refectory/refectoryref01.Hex -/
noncomputable def r81_15 (k : KT R) : KT R := fun fr H => opn 11 fr (fun s0 s1 s4 s5 s6 s7 s12 s17 s23 s32 s46 => 
(k [s0, s1, s5, s5, s6, s7, s12, s17, s23, s32, s46] H : R))
noncomputable def r81_6 (k : KT R) : KT R := fun fr H => opn 11 fr (fun s0 s1 s4 s5 s6 s7 s12 s17 s23 s32 s46 => 
(qAdd X 3 s6 (.int .i64 1) fun v19 =>
k [s0, s1, s4, s5, v19, s7, s12, s17, s23, s32, s46] H : R))
noncomputable def r81_10 (k : KT R) : KT R := fun fr H => opn 11 fr (fun s0 s1 s4 s5 s6 s7 s12 s17 s23 s32 s46 => 
(qMul X 3 (.int .i64 16) s5 fun v27 =>
qSub X 5 s7 (.int .u8 48) fun v29 =>
qConvI .i64 v29 fun v30 =>
qAdd X 3 v27 v30 fun v31 =>
k [s0, s1, s4, v31, s6, s7, s12, s17, s23, s32, s46] H : R))
noncomputable def r81_12 (k : KT R) : KT R := fun fr H => opn 11 fr (fun s0 s1 s4 s5 s6 s7 s12 s17 s23 s32 s46 => 
(qMul X 3 (.int .i64 16) s5 fun v40 =>
qSub X 5 s7 (.int .u8 97) fun v42 =>
qConvI .i64 v42 fun v43 =>
qAdd X 3 v40 v43 fun v44 =>
qAdd X 3 v44 (.int .i64 10) fun v45 =>
k [s0, s1, s4, v45, s6, s7, s12, s17, s23, s32, s46] H : R))
noncomputable def r81_14 (k : KT R) : KT R := fun fr H => opn 11 fr (fun s0 s1 s4 s5 s6 s7 s12 s17 s23 s32 s46 => 
(qMul X 3 (.int .i64 16) s5 fun v54 =>
qSub X 5 s7 (.int .u8 65) fun v56 =>
qConvI .i64 v56 fun v57 =>
qAdd X 3 v54 v57 fun v58 =>
qAdd X 3 v58 (.int .i64 10) fun v59 =>
k [s0, s1, s4, v59, s6, s7, s12, s17, s23, s32, s46] H : R))
noncomputable def r81_8 (k : KT R) : KT R := fun fr H => opn 11 fr (fun s0 s1 s4 s5 s6 s7 s12 s17 s23 s32 s46 => 
(k [s0, s1, (.int .i64 (-1)), s5, s6, s7, s12, s17, s23, s32, s46] H : R))
noncomputable def r81_13 (k : KT R) : KT R := fun fr H => opn 11 fr (fun s0 s1 s4 s5 s6 s7 s12 s17 s23 s32 s46 => 
(qGeq X 5 s7 (.int .u8 65) fun v48 =>
qG v48 true (fun k => k s7 H) H fun v50 H =>
qG v48 true (fun k => qLeq X 5 v50 (.int .u8 70) fun v => k v H) H fun v51 H =>
qPick v48 v51 (.bool false) fun v52 =>
k [s0, s1, s4, s5, s6, s7, s12, s17, s23, s32, v52] H : R))
noncomputable def r81_11 (k : KT R) : KT R := fun fr H => opn 11 fr (fun s0 s1 s4 s5 s6 s7 s12 s17 s23 s32 s46 => 
(qGeq X 5 s7 (.int .u8 97) fun v34 =>
qG v34 true (fun k => k s7 H) H fun v36 H =>
qG v34 true (fun k => qLeq X 5 v36 (.int .u8 102) fun v => k v H) H fun v37 H =>
qPick v34 v37 (.bool false) fun v38 =>
k [s0, s1, s4, s5, s6, s7, s12, s17, s23, v38, s46] H : R))
noncomputable def r81_9 (C : CallF) (k : KT R) : KT R := fun fr H => opn 11 fr (fun s0 s1 s4 s5 s6 s7 s12 s17 s23 s32 s46 => 
(qRes (C 46 [s7] H) fun v25 H =>
k [s0, s1, s4, s5, s6, s7, s12, s17, v25, s32, s46] H : R))
noncomputable def r81_7 (k : KT R) : KT R := fun fr H => opn 11 fr (fun s0 s1 s4 s5 s6 s7 s12 s17 s23 s32 s46 => 
(qIx s0 s6 fun v22 =>
k [s0, s1, s4, s5, s6, v22, s12, s17, s23, s32, s46] H : R))
noncomputable def r81_5 (k : KT R) : KT R := fun fr H => opn 11 fr (fun s0 s1 s4 s5 s6 s7 s12 s17 s23 s32 s46 => 
(qAdd X 3 s1 (.int .i64 4) fun v16 =>
qLss X 3 s6 v16 fun v17 =>
k [s0, s1, s4, s5, s6, s7, s12, v17, s23, s32, s46] H : R))
noncomputable def l81_8 (C : CallF) (k1 : KT R) (kr : KT R) : KT R → KT R := fun k2 => (r81_5 (qCd (sel 7) (fun k8 => k8) (fun _ => k1) (qBl (fun k3 => (r81_7 (qBl (fun k4 => (r81_9 C (qCd (sel 8) (fun k5 => (r81_10 k5)) (fun k5 => (r81_11 (qCd (sel 9) (fun k6 => (r81_12 k6)) (fun k6 => (r81_13 (qCd (sel 10) (fun k7 => (r81_14 k7)) (fun _ => (r81_8 kr)) k6))) k5))) k4))) k3))) (r81_6 k2))))
noncomputable def r81_4 (k : KT R) : KT R := fun fr H => opn 11 fr (fun s0 s1 s4 s5 s6 s7 s12 s17 s23 s32 s46 => 
(k [s0, s1, s4, s5, s1, s7, s12, s17, s23, s32, s46] H : R))
noncomputable def r81_3 (k : KT R) : KT R := fun fr H => opn 11 fr (fun s0 s1 s4 s5 s6 s7 s12 s17 s23 s32 s46 => 
(k [s0, s1, s4, (.int .i64 0), s6, s7, s12, s17, s23, s32, s46] H : R))
noncomputable def r81_2 (k : KT R) : KT R := fun fr H => opn 11 fr (fun s0 s1 s4 s5 s6 s7 s12 s17 s23 s32 s46 => 
(k [s0, s1, (.int .i64 (-1)), s5, s6, s7, s12, s17, s23, s32, s46] H : R))
noncomputable def r81_1 (k : KT R) : KT R := fun fr H => opn 11 fr (fun s0 s1 s4 s5 s6 s7 s12 s17 s23 s32 s46 => 
(qAdd X 3 s1 (.int .i64 4) fun v9 =>
qLenS s0 fun v11 =>
qGtr X 3 v9 v11 fun v12 =>
k [s0, s1, s4, s5, s6, s7, v12, s17, s23, s32, s46] H : R))
noncomputable def r81_0 (k : KT R) : KT R := fun fr H => opn 11 fr (fun s0 s1 s4 s5 s6 s7 s12 s17 s23 s32 s46 => 
(k [s0, s1, (.int .i64 0), s5, s6, s7, s12, s17, s23, s32, s46] H : R))
noncomputable def c81 (C : CallF) (l0 : List AV) (H : AH) (k : AV → AH → R) : R := opn 2 l0 (fun x0 x1 => (qFn (fun kr => (r81_0 (r81_1 (qCd (sel 6) (fun _ => (r81_2 kr)) (fun k9 => k9) (r81_3 (r81_4 (qBl (fun k1 => (qLoop (l81_8 C k1 kr))) (r81_15 kr))))))))
(fun fr H => k (sel 2 fr) H) [x0, x1, Aes.undef, Aes.undef, Aes.undef, Aes.undef, Aes.undef, Aes.undef, Aes.undef, Aes.undef, Aes.undef] H : R))
/- refectory/refectoryref01.bytes -/
noncomputable def r82_7 (k : KT R) : KT R := fun fr H => opn 5 fr (fun s0 s2 s3 s10 s23 => 
(qO (binop X .shr 3 s0 (.int .u64 18)) fun v42 =>
qO (binop X .or 3 (.int .i64 240) v42) fun v43 =>
qConvI .u8 v43 fun v44 =>
qO (binop X .shr 3 s0 (.int .u64 12)) fun v46 =>
qO (binop X .and 3 v46 (.int .i64 63)) fun v47 =>
qO (binop X .or 3 (.int .i64 128) v47) fun v48 =>
qConvI .u8 v48 fun v49 =>
qO (binop X .shr 3 s0 (.int .u64 6)) fun v51 =>
qO (binop X .and 3 v51 (.int .i64 63)) fun v52 =>
qO (binop X .or 3 (.int .i64 128) v52) fun v53 =>
qConvI .u8 v53 fun v54 =>
qO (binop X .and 3 s0 (.int .i64 63)) fun v56 =>
qO (binop X .or 3 (.int .i64 128) v56) fun v57 =>
qConvI .u8 v57 fun v58 =>
qRows z5 4 [(0, v44), (1, v49), (2, v54), (3, v58)] fun v59 =>
qBstr v59 H fun v60 =>
k [s0, v60, s3, s10, s23] H : R))
noncomputable def r82_2 (k : KT R) : KT R := fun fr H => opn 5 fr (fun s0 s2 s3 s10 s23 => 
(qConvI .u8 s0 fun v7 =>
qRows z5 1 [(0, v7)] fun v8 =>
qBstr v8 H fun v9 =>
k [s0, v9, s3, s10, s23] H : R))
noncomputable def r82_4 (k : KT R) : KT R := fun fr H => opn 5 fr (fun s0 s2 s3 s10 s23 => 
(qO (binop X .shr 3 s0 (.int .u64 6)) fun v14 =>
qO (binop X .or 3 (.int .i64 192) v14) fun v15 =>
qConvI .u8 v15 fun v16 =>
qO (binop X .and 3 s0 (.int .i64 63)) fun v18 =>
qO (binop X .or 3 (.int .i64 128) v18) fun v19 =>
qConvI .u8 v19 fun v20 =>
qRows z5 2 [(0, v16), (1, v20)] fun v21 =>
qBstr v21 H fun v22 =>
k [s0, v22, s3, s10, s23] H : R))
noncomputable def r82_6 (k : KT R) : KT R := fun fr H => opn 5 fr (fun s0 s2 s3 s10 s23 => 
(qO (binop X .shr 3 s0 (.int .u64 12)) fun v27 =>
qO (binop X .or 3 (.int .i64 224) v27) fun v28 =>
qConvI .u8 v28 fun v29 =>
qO (binop X .shr 3 s0 (.int .u64 6)) fun v31 =>
qO (binop X .and 3 v31 (.int .i64 63)) fun v32 =>
qO (binop X .or 3 (.int .i64 128) v32) fun v33 =>
qConvI .u8 v33 fun v34 =>
qO (binop X .and 3 s0 (.int .i64 63)) fun v36 =>
qO (binop X .or 3 (.int .i64 128) v36) fun v37 =>
qConvI .u8 v37 fun v38 =>
qRows z5 3 [(0, v29), (1, v34), (2, v38)] fun v39 =>
qBstr v39 H fun v40 =>
k [s0, v40, s3, s10, s23] H : R))
noncomputable def r82_5 (k : KT R) : KT R := fun fr H => opn 5 fr (fun s0 s2 s3 s10 s23 => 
(qLss X 3 s0 (.int .i64 65536) fun v25 =>
k [s0, s2, s3, s10, v25] H : R))
noncomputable def r82_3 (k : KT R) : KT R := fun fr H => opn 5 fr (fun s0 s2 s3 s10 s23 => 
(qLss X 3 s0 (.int .i64 2048) fun v12 =>
k [s0, s2, s3, v12, s23] H : R))
noncomputable def r82_1 (k : KT R) : KT R := fun fr H => opn 5 fr (fun s0 s2 s3 s10 s23 => 
(qLss X 3 s0 (.int .i64 128) fun v5 =>
k [s0, s2, v5, s10, s23] H : R))
noncomputable def r82_0 (k : KT R) : KT R := fun fr H => opn 5 fr (fun s0 s2 s3 s10 s23 => 
(k [s0, (.str []), s3, s10, s23] H : R))
noncomputable def c82 (C : CallF) (l0 : List AV) (H : AH) (k : AV → AH → R) : R := opn 1 l0 (fun x0 => (qFn (fun kr => (r82_0 (qBl (fun k1 => (r82_1 (qCd (sel 2) (fun _ => (r82_2 kr)) (fun k2 => (r82_3 (qCd (sel 3) (fun _ => (r82_4 kr)) (fun k3 => (r82_5 (qCd (sel 4) (fun _ => (r82_6 kr)) (fun k4 => k4) k3))) k2))) k1))) (r82_7 kr))))
(fun fr H => k (sel 1 fr) H) [x0, Aes.undef, Aes.undef, Aes.undef, Aes.undef] H : R))
end
theorem e80 {R : Type} [Mon R] : hFn (R := R) X 80 Try.f80 2 [0, 1, 4, 5, 6, 7, 8, 9, 14, 18, 27, 36, 50, 53, 62, 98] = c80 := by kernel_rfl
theorem xf80 : X.fn 80 = some Try.f80 := by kernel_rfl
theorem e81 {R : Type} [Mon R] : hFn (R := R) X 81 Try.f81 2 [0, 1, 4, 5, 6, 7, 12, 17, 23, 32, 46] = c81 := by kernel_rfl
theorem xf81 : X.fn 81 = some Try.f81 := by kernel_rfl
theorem e82 {R : Type} [Mon R] : hFn (R := R) X 82 Try.f82 1 [0, 2, 3, 10, 23] = c82 := by kernel_rfl
theorem xf82 : X.fn 82 = some Try.f82 := by kernel_rfl
end T
