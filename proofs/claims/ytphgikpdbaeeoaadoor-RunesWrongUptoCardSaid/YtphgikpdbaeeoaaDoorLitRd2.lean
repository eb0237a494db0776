import Derived.Test.YtphgikpdbaeeoaaDoorLitRd1
set_option linter.all false
set_option maxRecDepth 100000
set_option linter.unusedVariables false
open Go Go.Aes Go.Proofs
namespace T
section
variable {R : Type} [Mon R]
/- refectory/refectoryref01.rune1 -/
noncomputable def r58_22 (k : KT R) : KT R := fun fr H => opn 16 fr (fun s0 s1 s4 s5 s6 s7 s8 s9 s14 s18 s27 s36 s50 s53 s62 s98 => 
(k [s0, s1, s8, s7, s6, s7, s8, s9, s14, s18, s27, s36, s50, s53, s62, s98] H : R))
noncomputable def r58_21 (k : KT R) : KT R := fun fr H => opn 16 fr (fun s0 s1 s4 s5 s6 s7 s8 s9 s14 s18 s27 s36 s50 s53 s62 s98 => 
(k [s0, s1, (.int .i64 0), (.int .i64 0), s6, s7, s8, s9, s14, s18, s27, s36, s50, s53, s62, s98] H : R))
noncomputable def r58_20 (k : KT R) : KT R := fun fr H => opn 16 fr (fun s0 s1 s4 s5 s6 s7 s8 s9 s14 s18 s27 s36 s50 s53 s62 s98 => 
(qEql X 3 s7 (.int .i64 3) fun v74 =>
qG v74 true (fun k => k s8 H) H fun v76 H =>
qG v74 true (fun k => qLss X 3 v76 (.int .i64 2048) fun v => k v H) H fun v77 H =>
qPick v74 v77 (.bool false) fun v78 =>
qG v78 false (fun k => k s7 H) H fun v80 H =>
qG v78 false (fun k => qEql X 3 v80 (.int .i64 4) fun v => k v H) H fun v81 H =>
qG v78 false (fun k => k v81 H) H fun v82 H =>
qG v82 true (fun k => k s8 H) H fun v83 H =>
qG v82 true (fun k => qLss X 3 v83 (.int .i64 65536) fun v => k v H) H fun v84 H =>
qG v82 true (fun k => k v84 H) H fun v85 H =>
qG v85 false (fun k => k s8 H) H fun v86 H =>
qG v85 false (fun k => qGtr X 3 v86 (.int .i64 1114111) fun v => k v H) H fun v87 H =>
qG v82 true (fun k => qPick v85 (.bool true) v87 fun v => k v H) H fun v88 H =>
qG v78 false (fun k => qPick v82 v88 (.bool false) fun v => k v H) H fun v89 H =>
qPick v78 (.bool true) v89 fun v90 =>
qG v90 false (fun k => k s8 H) H fun v92 H =>
qG v90 false (fun k => qGeq X 3 v92 (.int .i64 55296) fun v => k v H) H fun v93 H =>
qG v90 false (fun k => k v93 H) H fun v94 H =>
qG v94 true (fun k => k s8 H) H fun v95 H =>
qG v94 true (fun k => qLeq X 3 v95 (.int .i64 57343) fun v => k v H) H fun v96 H =>
qG v90 false (fun k => qPick v94 v96 (.bool false) fun v => k v H) H fun v97 H =>
qPick v90 (.bool true) v97 fun v98 =>
k [s0, s1, s4, s5, s6, s7, s8, s9, s14, s18, s27, s36, s50, s53, s62, v98] H : R))
noncomputable def r58_16 (k : KT R) : KT R := fun fr H => opn 16 fr (fun s0 s1 s4 s5 s6 s7 s8 s9 s14 s18 s27 s36 s50 s53 s62 s98 => 
(qAdd X 3 s9 (.int .i64 1) fun v55 =>
k [s0, s1, s4, s5, s6, s7, s8, v55, s14, s18, s27, s36, s50, s53, s62, s98] H : R))
noncomputable def r58_19 (k : KT R) : KT R := fun fr H => opn 16 fr (fun s0 s1 s4 s5 s6 s7 s8 s9 s14 s18 s27 s36 s50 s53 s62 s98 => 
(qO (binop X .shl 3 s8 (.int .u64 6)) fun v64 =>
qAdd X 3 s1 s9 fun v68 =>
qIx s0 v68 fun v69 =>
qO (binop X .and 5 v69 (.int .u8 63)) fun v70 =>
qConvI .i64 v70 fun v71 =>
qO (binop X .or 3 v64 v71) fun v72 =>
k [s0, s1, s4, s5, s6, s7, v72, s9, s14, s18, s27, s36, s50, s53, s62, s98] H : R))
noncomputable def r58_18 (k : KT R) : KT R := fun fr H => opn 16 fr (fun s0 s1 s4 s5 s6 s7 s8 s9 s14 s18 s27 s36 s50 s53 s62 s98 => 
(k [s0, s1, (.int .i64 0), (.int .i64 0), s6, s7, s8, s9, s14, s18, s27, s36, s50, s53, s62, s98] H : R))
noncomputable def r58_17 (k : KT R) : KT R := fun fr H => opn 16 fr (fun s0 s1 s4 s5 s6 s7 s8 s9 s14 s18 s27 s36 s50 s53 s62 s98 => 
(qAdd X 3 s1 s9 fun v59 =>
qIx s0 v59 fun v60 =>
qO (binop X .and 5 v60 (.int .u8 192)) fun v61 =>
qNeq X 5 v61 (.int .u8 128) fun v62 =>
k [s0, s1, s4, s5, s6, s7, s8, s9, s14, s18, s27, s36, s50, s53, v62, s98] H : R))
noncomputable def r58_15 (k : KT R) : KT R := fun fr H => opn 16 fr (fun s0 s1 s4 s5 s6 s7 s8 s9 s14 s18 s27 s36 s50 s53 s62 s98 => 
(qLss X 3 s9 s7 fun v53 =>
k [s0, s1, s4, s5, s6, s7, s8, s9, s14, s18, s27, s36, s50, v53, s62, s98] H : R))
noncomputable def l58_6 (k2 : KT R) (kr : KT R) : KT R → KT R := fun k3 => (r58_15 (qCd (sel 13) (fun k6 => k6) (fun _ => k2) (qBl (fun k4 => (r58_17 (qCd (sel 14) (fun _ => (r58_18 kr)) (fun k5 => k5) (r58_19 k4)))) (r58_16 k3))))
noncomputable def r58_14 (k : KT R) : KT R := fun fr H => opn 16 fr (fun s0 s1 s4 s5 s6 s7 s8 s9 s14 s18 s27 s36 s50 s53 s62 s98 => 
(k [s0, s1, s4, s5, s6, s7, s8, (.int .i64 1), s14, s18, s27, s36, s50, s53, s62, s98] H : R))
noncomputable def r58_13 (k : KT R) : KT R := fun fr H => opn 16 fr (fun s0 s1 s4 s5 s6 s7 s8 s9 s14 s18 s27 s36 s50 s53 s62 s98 => 
(k [s0, s1, (.int .i64 0), (.int .i64 0), s6, s7, s8, s9, s14, s18, s27, s36, s50, s53, s62, s98] H : R))
noncomputable def r58_12 (k : KT R) : KT R := fun fr H => opn 16 fr (fun s0 s1 s4 s5 s6 s7 s8 s9 s14 s18 s27 s36 s50 s53 s62 s98 => 
(qAdd X 3 s1 s7 fun v47 =>
qLenS s0 fun v49 =>
qGtr X 3 v47 v49 fun v50 =>
k [s0, s1, s4, s5, s6, s7, s8, s9, s14, s18, s27, s36, v50, s53, s62, s98] H : R))
noncomputable def r58_5 (k : KT R) : KT R := fun fr H => opn 16 fr (fun s0 s1 s4 s5 s6 s7 s8 s9 s14 s18 s27 s36 s50 s53 s62 s98 => 
(k [s0, s1, s6, (.int .i64 1), s6, s7, s8, s9, s14, s18, s27, s36, s50, s53, s62, s98] H : R))
noncomputable def r58_7 (k : KT R) : KT R := fun fr H => opn 16 fr (fun s0 s1 s4 s5 s6 s7 s8 s9 s14 s18 s27 s36 s50 s53 s62 s98 => 
(qO (binop X .and 3 s6 (.int .i64 31)) fun v26 =>
k [s0, s1, s4, s5, s6, (.int .i64 2), v26, s9, s14, s18, s27, s36, s50, s53, s62, s98] H : R))
noncomputable def r58_9 (k : KT R) : KT R := fun fr H => opn 16 fr (fun s0 s1 s4 s5 s6 s7 s8 s9 s14 s18 s27 s36 s50 s53 s62 s98 => 
(qO (binop X .and 3 s6 (.int .i64 15)) fun v35 =>
k [s0, s1, s4, s5, s6, (.int .i64 3), v35, s9, s14, s18, s27, s36, s50, s53, s62, s98] H : R))
noncomputable def r58_11 (k : KT R) : KT R := fun fr H => opn 16 fr (fun s0 s1 s4 s5 s6 s7 s8 s9 s14 s18 s27 s36 s50 s53 s62 s98 => 
(qO (binop X .and 3 s6 (.int .i64 7)) fun v44 =>
k [s0, s1, s4, s5, s6, (.int .i64 4), v44, s9, s14, s18, s27, s36, s50, s53, s62, s98] H : R))
noncomputable def r58_3 (k : KT R) : KT R := fun fr H => opn 16 fr (fun s0 s1 s4 s5 s6 s7 s8 s9 s14 s18 s27 s36 s50 s53 s62 s98 => 
(k [s0, s1, (.int .i64 0), (.int .i64 0), s6, s7, s8, s9, s14, s18, s27, s36, s50, s53, s62, s98] H : R))
noncomputable def r58_10 (k : KT R) : KT R := fun fr H => opn 16 fr (fun s0 s1 s4 s5 s6 s7 s8 s9 s14 s18 s27 s36 s50 s53 s62 s98 => 
(qGeq X 3 s6 (.int .i64 240) fun v38 =>
qG v38 true (fun k => k s6 H) H fun v40 H =>
qG v38 true (fun k => qLeq X 3 v40 (.int .i64 244) fun v => k v H) H fun v41 H =>
qPick v38 v41 (.bool false) fun v42 =>
k [s0, s1, s4, s5, s6, s7, s8, s9, s14, s18, s27, v42, s50, s53, s62, s98] H : R))
noncomputable def r58_8 (k : KT R) : KT R := fun fr H => opn 16 fr (fun s0 s1 s4 s5 s6 s7 s8 s9 s14 s18 s27 s36 s50 s53 s62 s98 => 
(qGeq X 3 s6 (.int .i64 224) fun v29 =>
qG v29 true (fun k => k s6 H) H fun v31 H =>
qG v29 true (fun k => qLeq X 3 v31 (.int .i64 239) fun v => k v H) H fun v32 H =>
qPick v29 v32 (.bool false) fun v33 =>
k [s0, s1, s4, s5, s6, s7, s8, s9, s14, s18, v33, s36, s50, s53, s62, s98] H : R))
noncomputable def r58_6 (k : KT R) : KT R := fun fr H => opn 16 fr (fun s0 s1 s4 s5 s6 s7 s8 s9 s14 s18 s27 s36 s50 s53 s62 s98 => 
(qGeq X 3 s6 (.int .i64 194) fun v20 =>
qG v20 true (fun k => k s6 H) H fun v22 H =>
qG v20 true (fun k => qLeq X 3 v22 (.int .i64 223) fun v => k v H) H fun v23 H =>
qPick v20 v23 (.bool false) fun v24 =>
k [s0, s1, s4, s5, s6, s7, s8, s9, s14, v24, s27, s36, s50, s53, s62, s98] H : R))
noncomputable def r58_4 (k : KT R) : KT R := fun fr H => opn 16 fr (fun s0 s1 s4 s5 s6 s7 s8 s9 s14 s18 s27 s36 s50 s53 s62 s98 => 
(qLss X 3 s6 (.int .i64 128) fun v16 =>
k [s0, s1, s4, s5, s6, s7, s8, s9, v16, s18, s27, s36, s50, s53, s62, s98] H : R))
noncomputable def r58_2 (k : KT R) : KT R := fun fr H => opn 16 fr (fun s0 s1 s4 s5 s6 s7 s8 s9 s14 s18 s27 s36 s50 s53 s62 s98 => 
(k [s0, s1, s4, s5, s6, (.int .i64 0), (.int .i64 0), s9, s14, s18, s27, s36, s50, s53, s62, s98] H : R))
noncomputable def r58_1 (k : KT R) : KT R := fun fr H => opn 16 fr (fun s0 s1 s4 s5 s6 s7 s8 s9 s14 s18 s27 s36 s50 s53 s62 s98 => 
(qIx s0 s1 fun v12 =>
qConvI .i64 v12 fun v13 =>
k [s0, s1, s4, s5, v13, s7, s8, s9, s14, s18, s27, s36, s50, s53, s62, s98] H : R))
noncomputable def r58_0 (k : KT R) : KT R := fun fr H => opn 16 fr (fun s0 s1 s4 s5 s6 s7 s8 s9 s14 s18 s27 s36 s50 s53 s62 s98 => 
(k [s0, s1, (.int .i64 0), (.int .i64 0), s6, s7, s8, s9, s14, s18, s27, s36, s50, s53, s62, s98] H : R))
noncomputable def c58 (C : CallF) (l0 : List AV) (H : AH) (k : AV → AH → R) : R := opn 2 l0 (fun x0 x1 => (qFn (fun kr => (r58_0 (r58_1 (r58_2 (qBl (fun k8 => (r58_4 (qCd (sel 8) (fun _ => (r58_5 kr)) (fun k9 => (r58_6 (qCd (sel 9) (fun k10 => (r58_7 k10)) (fun k10 => (r58_8 (qCd (sel 10) (fun k11 => (r58_9 k11)) (fun k11 => (r58_10 (qCd (sel 11) (fun k12 => (r58_11 k12)) (fun _ => (r58_3 kr)) k11))) k10))) k9))) k8))) (r58_12 (qCd (sel 12) (fun _ => (r58_13 kr)) (fun k7 => k7) (r58_14 (qBl (fun k2 => (qLoop (l58_6 k2 kr))) (r58_20 (qCd (sel 15) (fun _ => (r58_21 kr)) (fun k1 => k1) (r58_22 kr))))))))))))
(fun fr H => k (.tup [(sel 2 fr), (sel 3 fr)]) H) [x0, x1, Aes.undef, Aes.undef, Aes.undef, Aes.undef, Aes.undef, Aes.undef, Aes.undef, Aes.undef, Aes.undef, Aes.undef, Aes.undef, Aes.undef, Aes.undef, Aes.undef] H : R))
/- refectory/refectoryref01.Letter -/
noncomputable def r59_1 (k : KT R) : KT R := fun fr H => opn 2 fr (fun s0 s2 => 
(qGeq X 5 s0 (.int .u8 97) fun v4 =>
qG v4 true (fun k => k s0 H) H fun v6 H =>
qG v4 true (fun k => qLeq X 5 v6 (.int .u8 122) fun v => k v H) H fun v7 H =>
qPick v4 v7 (.bool false) fun v8 =>
qG v8 false (fun k => k s0 H) H fun v10 H =>
qG v8 false (fun k => qGeq X 5 v10 (.int .u8 65) fun v => k v H) H fun v11 H =>
qG v8 false (fun k => k v11 H) H fun v12 H =>
qG v12 true (fun k => k s0 H) H fun v13 H =>
qG v12 true (fun k => qLeq X 5 v13 (.int .u8 90) fun v => k v H) H fun v14 H =>
qG v8 false (fun k => qPick v12 v14 (.bool false) fun v => k v H) H fun v15 H =>
qPick v8 (.bool true) v15 fun v16 =>
qG v16 false (fun k => k s0 H) H fun v18 H =>
qG v16 false (fun k => qEql X 5 v18 (.int .u8 95) fun v => k v H) H fun v19 H =>
qPick v16 (.bool true) v19 fun v20 =>
k [s0, v20] H : R))
noncomputable def r59_0 (k : KT R) : KT R := fun fr H => opn 2 fr (fun s0 s2 => 
(k [s0, (.bool false)] H : R))
noncomputable def c59 (C : CallF) (l0 : List AV) (H : AH) (k : AV → AH → R) : R := opn 1 l0 (fun x0 => (qFn (fun kr => (r59_0 (r59_1 kr)))
(fun fr H => k (sel 1 fr) H) [x0, Aes.undef] H : R))
/- refectory/refectoryref01.Digit -/
noncomputable def r60_1 (k : KT R) : KT R := fun fr H => opn 2 fr (fun s0 s2 => 
(qGeq X 5 s0 (.int .u8 48) fun v4 =>
qG v4 true (fun k => k s0 H) H fun v6 H =>
qG v4 true (fun k => qLeq X 5 v6 (.int .u8 57) fun v => k v H) H fun v7 H =>
qPick v4 v7 (.bool false) fun v8 =>
k [s0, v8] H : R))
noncomputable def r60_0 (k : KT R) : KT R := fun fr H => opn 2 fr (fun s0 s2 => 
(k [s0, (.bool false)] H : R))
noncomputable def c60 (C : CallF) (l0 : List AV) (H : AH) (k : AV → AH → R) : R := opn 1 l0 (fun x0 => (qFn (fun kr => (r60_0 (r60_1 kr)))
(fun fr H => k (sel 1 fr) H) [x0, Aes.undef] H : R))
/- refectory/refectoryref01.escape -/
noncomputable def r61_12 (k : KT R) : KT R := fun fr H => opn 8 fr (fun s0 s2 s3 s4 s6 s8 s10 s12 => 
(k [s0, (.int .u8 0), s3, s4, s6, s8, s10, s12] H : R))
noncomputable def r61_3 (k : KT R) : KT R := fun fr H => opn 8 fr (fun s0 s2 s3 s4 s6 s8 s10 s12 => 
(k [s0, (.int .u8 98), s3, s4, s6, s8, s10, s12] H : R))
noncomputable def r61_5 (k : KT R) : KT R := fun fr H => opn 8 fr (fun s0 s2 s3 s4 s6 s8 s10 s12 => 
(k [s0, (.int .u8 116), s3, s4, s6, s8, s10, s12] H : R))
noncomputable def r61_7 (k : KT R) : KT R := fun fr H => opn 8 fr (fun s0 s2 s3 s4 s6 s8 s10 s12 => 
(k [s0, (.int .u8 110), s3, s4, s6, s8, s10, s12] H : R))
noncomputable def r61_9 (k : KT R) : KT R := fun fr H => opn 8 fr (fun s0 s2 s3 s4 s6 s8 s10 s12 => 
(k [s0, (.int .u8 102), s3, s4, s6, s8, s10, s12] H : R))
noncomputable def r61_11 (k : KT R) : KT R := fun fr H => opn 8 fr (fun s0 s2 s3 s4 s6 s8 s10 s12 => 
(k [s0, (.int .u8 114), s3, s4, s6, s8, s10, s12] H : R))
noncomputable def r61_10 (k : KT R) : KT R := fun fr H => opn 8 fr (fun s0 s2 s3 s4 s6 s8 s10 s12 => 
(qEql X 5 s3 (.int .u8 13) fun v13 =>
k [s0, s2, s3, s4, s6, s8, s10, v13] H : R))
noncomputable def r61_8 (k : KT R) : KT R := fun fr H => opn 8 fr (fun s0 s2 s3 s4 s6 s8 s10 s12 => 
(qEql X 5 s3 (.int .u8 12) fun v11 =>
k [s0, s2, s3, s4, s6, s8, v11, s12] H : R))
noncomputable def r61_6 (k : KT R) : KT R := fun fr H => opn 8 fr (fun s0 s2 s3 s4 s6 s8 s10 s12 => 
(qEql X 5 s3 (.int .u8 10) fun v9 =>
k [s0, s2, s3, s4, s6, v9, s10, s12] H : R))
noncomputable def r61_4 (k : KT R) : KT R := fun fr H => opn 8 fr (fun s0 s2 s3 s4 s6 s8 s10 s12 => 
(qEql X 5 s3 (.int .u8 9) fun v7 =>
k [s0, s2, s3, s4, v7, s8, s10, s12] H : R))
noncomputable def r61_2 (k : KT R) : KT R := fun fr H => opn 8 fr (fun s0 s2 s3 s4 s6 s8 s10 s12 => 
(qEql X 5 s3 (.int .u8 8) fun v5 =>
k [s0, s2, s3, v5, s6, s8, s10, s12] H : R))
noncomputable def r61_1 (k : KT R) : KT R := fun fr H => opn 8 fr (fun s0 s2 s3 s4 s6 s8 s10 s12 => 
(k [s0, s2, s0, s4, s6, s8, s10, s12] H : R))
noncomputable def r61_0 (k : KT R) : KT R := fun fr H => opn 8 fr (fun s0 s2 s3 s4 s6 s8 s10 s12 => 
(k [s0, (.int .u8 0), s3, s4, s6, s8, s10, s12] H : R))
noncomputable def c61 (C : CallF) (l0 : List AV) (H : AH) (k : AV → AH → R) : R := opn 1 l0 (fun x0 => (qFn (fun kr => (r61_0 (r61_1 (qBl (fun k1 => (r61_2 (qCd (sel 3) (fun _ => (r61_3 kr)) (fun k2 => (r61_4 (qCd (sel 4) (fun _ => (r61_5 kr)) (fun k3 => (r61_6 (qCd (sel 5) (fun _ => (r61_7 kr)) (fun k4 => (r61_8 (qCd (sel 6) (fun _ => (r61_9 kr)) (fun k5 => (r61_10 (qCd (sel 7) (fun _ => (r61_11 kr)) (fun k6 => k6) k5))) k4))) k3))) k2))) k1))) (r61_12 kr)))))
(fun fr H => k (sel 1 fr) H) [x0, Aes.undef, Aes.undef, Aes.undef, Aes.undef, Aes.undef, Aes.undef, Aes.undef] H : R))
/- strings.Split -/
noncomputable def r62_1 (C : CallF) (k : KT R) : KT R := fun fr H => opn 3 fr (fun s0 s1 s4 => 
(qRes (C 85 [s0, s1, (.int .i64 0), (.int .i64 (-1))] H) fun v7 H =>
k [s0, s1, v7] H : R))
noncomputable def r62_0 (k : KT R) : KT R := fun fr H => opn 3 fr (fun s0 s1 s4 => 
(k [s0, s1, (.sl [] .nil)] H : R))
noncomputable def c62 (C : CallF) (l0 : List AV) (H : AH) (k : AV → AH → R) : R := opn 2 l0 (fun x0 x1 => (qFn (fun kr => (r62_0 (r62_1 C kr)))
(fun fr H => k (sel 2 fr) H) [x0, x1, Aes.undef] H : R))
/- strings.ReplaceAll -/
noncomputable def r63_1 (C : CallF) (k : KT R) : KT R := fun fr H => opn 4 fr (fun s0 s1 s2 s6 => 
(qRes (C 86 [s0, s1, s2, (.int .i64 (-1))] H) fun v10 H =>
k [s0, s1, s2, v10] H : R))
noncomputable def r63_0 (k : KT R) : KT R := fun fr H => opn 4 fr (fun s0 s1 s2 s6 => 
(k [s0, s1, s2, (.str [])] H : R))
noncomputable def c63 (C : CallF) (l0 : List AV) (H : AH) (k : AV → AH → R) : R := opn 3 l0 (fun x0 x1 x2 => (qFn (fun kr => (r63_0 (r63_1 C kr)))
(fun fr H => k (sel 3 fr) H) [x0, x1, x2, Aes.undef] H : R))
/- refectory/runes.indent -/
noncomputable def r64_1 (C : CallF) (k : KT R) : KT R := fun fr H => opn 2 fr (fun s0 s2 => 
(qLenS s0 fun v4 =>
qRes (C 70 [s0, (.str [32,9])] H) fun v6 H =>
qLenS v6 fun v7 =>
qSub X 3 v4 v7 fun v8 =>
k [s0, v8] H : R))
noncomputable def r64_0 (k : KT R) : KT R := fun fr H => opn 2 fr (fun s0 s2 => 
(k [s0, (.int .i64 0)] H : R))
noncomputable def c64 (C : CallF) (l0 : List AV) (H : AH) (k : AV → AH → R) : R := opn 1 l0 (fun x0 => (qFn (fun kr => (r64_0 (r64_1 C kr)))
(fun fr H => k (sel 1 fr) H) [x0, Aes.undef] H : R))
/- refectory/runes.Block$1 -/
noncomputable def r65_1 (C : CallF) (k : KT R) : KT R := fun fr H => opn 2 fr (fun s0 s2 => 
(qRes (C 64 [s0] H) fun v4 H =>
qLenS s0 fun v6 =>
qEql X 3 v4 v6 fun v7 =>
k [s0, v7] H : R))
noncomputable def r65_0 (k : KT R) : KT R := fun fr H => opn 2 fr (fun s0 s2 => 
(k [s0, (.bool false)] H : R))
noncomputable def c65 (C : CallF) (l0 : List AV) (H : AH) (k : AV → AH → R) : R := opn 1 l0 (fun x0 => (qFn (fun kr => (r65_0 (r65_1 C kr)))
(fun fr H => k (sel 1 fr) H) [x0, Aes.undef] H : R))
/- refectory/refectoryref01.lines -/
noncomputable def r67_11 (k : KT R) : KT R := fun fr H => opn 8 fr (fun s0 s2 s3 s4 s5 s9 s21 s46 => 
(qSlc Tryd.t9.desc 0 s0 (some s4) none none fun v54 =>
qRows z9 1 [(0, v54)] fun v55 =>
qApp 1 16 s3 v55 false none H fun v56 H =>
k [s0, v56, s3, s4, s5, s9, s21, s46] H : R))
noncomputable def r67_5 (k : KT R) : KT R := fun fr H => opn 8 fr (fun s0 s2 s3 s4 s5 s9 s21 s46 => 
(qAdd X 3 s5 (.int .i64 1) fun v11 =>
k [s0, s2, s3, s4, v11, s9, s21, s46] H : R))
noncomputable def r67_10 (k : KT R) : KT R := fun fr H => opn 8 fr (fun s0 s2 s3 s4 s5 s9 s21 s46 => 
(qAdd X 3 s5 (.int .i64 1) fun v50 =>
k [s0, s2, s3, v50, s5, s9, s21, s46] H : R))
noncomputable def r67_9 (k : KT R) : KT R := fun fr H => opn 8 fr (fun s0 s2 s3 s4 s5 s9 s21 s46 => 
(qAdd X 3 s5 (.int .i64 1) fun v48 =>
k [s0, s2, s3, s4, v48, s9, s21, s46] H : R))
noncomputable def r67_8 (k : KT R) : KT R := fun fr H => opn 8 fr (fun s0 s2 s3 s4 s5 s9 s21 s46 => 
(qIx s0 s5 fun v31 =>
qEql X 5 v31 (.int .u8 13) fun v32 =>
qG v32 true (fun k => k s5 H) H fun v34 H =>
qG v32 true (fun k => qAdd X 3 v34 (.int .i64 1) fun v => k v H) H fun v35 H =>
qG v32 true (fun k => k s0 H) H fun v36 H =>
qG v32 true (fun k => qLenS v36 fun v => k v H) H fun v37 H =>
qG v32 true (fun k => qLss X 3 v35 v37 fun v => k v H) H fun v38 H =>
qPick v32 v38 (.bool false) fun v39 =>
qG v39 true (fun k => k s0 H) H fun v41 H =>
qG v39 true (fun k => k s5 H) H fun v42 H =>
qG v39 true (fun k => qAdd X 3 v42 (.int .i64 1) fun v => k v H) H fun v43 H =>
qG v39 true (fun k => qIx v41 v43 fun v => k v H) H fun v44 H =>
qG v39 true (fun k => qEql X 5 v44 (.int .u8 10) fun v => k v H) H fun v45 H =>
qPick v39 v45 (.bool false) fun v46 =>
k [s0, s2, s3, s4, s5, s9, s21, v46] H : R))
noncomputable def r67_7 (k : KT R) : KT R := fun fr H => opn 8 fr (fun s0 s2 s3 s4 s5 s9 s21 s46 => 
(qSlc Tryd.t9.desc 0 s0 (some s4) (some s5) none fun v26 =>
qRows z9 1 [(0, v26)] fun v27 =>
qApp 1 16 s3 v27 false none H fun v28 H =>
k [s0, s2, v28, s4, s5, s9, s21, s46] H : R))
noncomputable def r67_6 (k : KT R) : KT R := fun fr H => opn 8 fr (fun s0 s2 s3 s4 s5 s9 s21 s46 => 
(qIx s0 s5 fun v14 =>
qNeq X 5 v14 (.int .u8 10) fun v15 =>
qG v15 true (fun k => k s0 H) H fun v17 H =>
qG v15 true (fun k => k s5 H) H fun v18 H =>
qG v15 true (fun k => qIx v17 v18 fun v => k v H) H fun v19 H =>
qG v15 true (fun k => qNeq X 5 v19 (.int .u8 13) fun v => k v H) H fun v20 H =>
qPick v15 v20 (.bool false) fun v21 =>
k [s0, s2, s3, s4, s5, s9, v21, s46] H : R))
noncomputable def r67_4 (k : KT R) : KT R := fun fr H => opn 8 fr (fun s0 s2 s3 s4 s5 s9 s21 s46 => 
(qLenS s0 fun v8 =>
qLss X 3 s5 v8 fun v9 =>
k [s0, s2, s3, s4, s5, v9, s21, s46] H : R))
noncomputable def l67_6 (k1 : KT R) : KT R → KT R := fun k2 => (r67_4 (qCd (sel 5) (fun k6 => k6) (fun _ => k1) (qBl (fun k3 => (r67_6 (qCd (sel 6) (fun _ => k3) (fun k5 => k5) (r67_7 (r67_8 (qCd (sel 7) (fun k4 => (r67_9 k4)) (fun k4 => k4) (r67_10 k3))))))) (r67_5 k2))))
noncomputable def r67_3 (k : KT R) : KT R := fun fr H => opn 8 fr (fun s0 s2 s3 s4 s5 s9 s21 s46 => 
(k [s0, s2, s3, s4, (.int .i64 0), s9, s21, s46] H : R))
noncomputable def r67_2 (k : KT R) : KT R := fun fr H => opn 8 fr (fun s0 s2 s3 s4 s5 s9 s21 s46 => 
(k [s0, s2, s3, (.int .i64 0), s5, s9, s21, s46] H : R))
noncomputable def r67_1 (k : KT R) : KT R := fun fr H => opn 8 fr (fun s0 s2 s3 s4 s5 s9 s21 s46 => 
(k [s0, s2, (.sl [] .nil), s4, s5, s9, s21, s46] H : R))
noncomputable def r67_0 (k : KT R) : KT R := fun fr H => opn 8 fr (fun s0 s2 s3 s4 s5 s9 s21 s46 => 
(k [s0, (.sl [] .nil), s3, s4, s5, s9, s21, s46] H : R))
noncomputable def c67 (C : CallF) (l0 : List AV) (H : AH) (k : AV → AH → R) : R := opn 1 l0 (fun x0 => (qFn (fun kr => (r67_0 (r67_1 (r67_2 (r67_3 (qBl (fun k1 => (qLoop (l67_6 k1))) (r67_11 kr)))))))
(fun fr H => k (sel 1 fr) H) [x0, Aes.undef, Aes.undef, Aes.undef, Aes.undef, Aes.undef, Aes.undef, Aes.undef] H : R))
/- refectory/refectoryref01.blank -/
noncomputable def r68_4 (k : KT R) : KT R := fun fr H => opn 4 fr (fun s0 s2 s3 s19 => 
(k [s0, s3, s3, s19] H : R))
noncomputable def r68_3 (k : KT R) : KT R := fun fr H => opn 4 fr (fun s0 s2 s3 s19 => 
(qAdd X 3 s3 (.int .i64 1) fun v21 =>
k [s0, s2, v21, s19] H : R))
noncomputable def r68_2 (k : KT R) : KT R := fun fr H => opn 4 fr (fun s0 s2 s3 s19 => 
(qLenS s0 fun v6 =>
qLss X 3 s3 v6 fun v7 =>
qG v7 true (fun k => k s0 H) H fun v9 H =>
qG v7 true (fun k => k s3 H) H fun v10 H =>
qG v7 true (fun k => qIx v9 v10 fun v => k v H) H fun v11 H =>
qG v7 true (fun k => qEql X 5 v11 (.int .u8 32) fun v => k v H) H fun v12 H =>
qG v7 true (fun k => k v12 H) H fun v13 H =>
qG v13 false (fun k => k s0 H) H fun v14 H =>
qG v13 false (fun k => k s3 H) H fun v15 H =>
qG v13 false (fun k => qIx v14 v15 fun v => k v H) H fun v16 H =>
qG v13 false (fun k => qEql X 5 v16 (.int .u8 9) fun v => k v H) H fun v17 H =>
qG v7 true (fun k => qPick v13 (.bool true) v17 fun v => k v H) H fun v18 H =>
qPick v7 v18 (.bool false) fun v19 =>
k [s0, s2, s3, v19] H : R))
noncomputable def l68_4 (k1 : KT R) : KT R → KT R := fun k2 => (r68_2 (qCd (sel 3) (fun k4 => k4) (fun _ => k1) (qBl (fun k3 => (r68_3 k3)) k2)))
noncomputable def r68_1 (k : KT R) : KT R := fun fr H => opn 4 fr (fun s0 s2 s3 s19 => 
(k [s0, s2, (.int .i64 0), s19] H : R))
noncomputable def r68_0 (k : KT R) : KT R := fun fr H => opn 4 fr (fun s0 s2 s3 s19 => 
(k [s0, (.int .i64 0), s3, s19] H : R))
noncomputable def c68 (C : CallF) (l0 : List AV) (H : AH) (k : AV → AH → R) : R := opn 1 l0 (fun x0 => (qFn (fun kr => (r68_0 (r68_1 (qBl (fun k1 => (qLoop (l68_4 k1))) (r68_4 kr)))))
(fun fr H => k (sel 1 fr) H) [x0, Aes.undef, Aes.undef, Aes.undef] H : R))
/- internal/stringslite.TrimPrefix -/
noncomputable def r69_3 (k : KT R) : KT R := fun fr H => opn 4 fr (fun s0 s1 s4 s7 => 
(k [s0, s1, s0, s7] H : R))
noncomputable def r69_2 (k : KT R) : KT R := fun fr H => opn 4 fr (fun s0 s1 s4 s7 => 
(qLenS s1 fun v10 =>
qSlc Tryd.t9.desc 0 s0 (some v10) none none fun v11 =>
k [s0, s1, v11, s7] H : R))
noncomputable def r69_1 (C : CallF) (k : KT R) : KT R := fun fr H => opn 4 fr (fun s0 s1 s4 s7 => 
(qRes (C 88 [s0, s1] H) fun v7 H =>
k [s0, s1, s4, v7] H : R))
noncomputable def r69_0 (k : KT R) : KT R := fun fr H => opn 4 fr (fun s0 s1 s4 s7 => 
(k [s0, s1, (.str []), s7] H : R))
noncomputable def c69 (C : CallF) (l0 : List AV) (H : AH) (k : AV → AH → R) : R := opn 2 l0 (fun x0 x1 => (qFn (fun kr => (r69_0 (r69_1 C (qCd (sel 3) (fun _ => (r69_2 kr)) (fun k1 => k1) (r69_3 kr)))))
(fun fr H => k (sel 2 fr) H) [x0, x1, Aes.undef, Aes.undef] H : R))
/- strings.TrimLeft -/
noncomputable def r70_8 (C : CallF) (k : KT R) : KT R := fun fr H => opn 8 fr (fun s0 s1 s4 s5 s6 s12 s21 s31 => 
(qRes (C 92 [s0, s1] H) fun v36 H =>
k [s0, s1, v36, s5, s6, s12, s21, s31] H : R))
noncomputable def r70_7 (C : CallF) (k : KT R) : KT R := fun fr H => opn 8 fr (fun s0 s1 s4 s5 s6 s12 s21 s31 => 
(qRes (C 91 [s0, s5] H) fun v33 H =>
k [s0, s1, v33, s5, s6, s12, s21, s31] H : R))
noncomputable def r70_6 (k : KT R) : KT R := fun fr H => opn 8 fr (fun s0 s1 s4 s5 s6 s12 s21 s31 => 
(k [s0, s1, s4, s5, s6, s12, s21, s6] H : R))
noncomputable def r70_5 (C : CallF) (k : KT R) : KT R := fun fr H => opn 8 fr (fun s0 s1 s4 s5 s6 s12 s21 s31 => 
(qRes (C 90 [s1] H) fun v28 H =>
qExt v28 0 fun v29 =>
qExt v28 1 fun v30 =>
qNew (.cells z106) .ptr H fun v5 H =>
qSt 256 v5 v29 H fun _ H =>
k [s0, s1, s4, v5, v30, s12, s21, s31] H : R))
noncomputable def r70_4 (C : CallF) (k : KT R) : KT R := fun fr H => opn 8 fr (fun s0 s1 s4 s5 s6 s12 s21 s31 => 
(qIx s1 (.int .i64 0) fun v24 =>
qRes (C 89 [s0, v24] H) fun v25 H =>
k [s0, s1, v25, s5, s6, s12, s21, s31] H : R))
noncomputable def r70_3 (k : KT R) : KT R := fun fr H => opn 8 fr (fun s0 s1 s4 s5 s6 s12 s21 s31 => 
(qLenS s1 fun v15 =>
qEql X 3 v15 (.int .i64 1) fun v16 =>
qG v16 true (fun k => k s1 H) H fun v18 H =>
qG v16 true (fun k => qIx v18 (.int .i64 0) fun v => k v H) H fun v19 H =>
qG v16 true (fun k => qLss X 5 v19 (.int .u8 128) fun v => k v H) H fun v20 H =>
qPick v16 v20 (.bool false) fun v21 =>
k [s0, s1, s4, s5, s6, s12, v21, s31] H : R))
noncomputable def r70_2 (k : KT R) : KT R := fun fr H => opn 8 fr (fun s0 s1 s4 s5 s6 s12 s21 s31 => 
(k [s0, s1, s0, s5, s6, s12, s21, s31] H : R))
noncomputable def r70_1 (k : KT R) : KT R := fun fr H => opn 8 fr (fun s0 s1 s4 s5 s6 s12 s21 s31 => 
(qEql X 9 s0 (.str []) fun v8 =>
qG v8 false (fun k => k s1 H) H fun v10 H =>
qG v8 false (fun k => qEql X 9 v10 (.str []) fun v => k v H) H fun v11 H =>
qPick v8 (.bool true) v11 fun v12 =>
k [s0, s1, s4, s5, s6, v12, s21, s31] H : R))
noncomputable def r70_0 (k : KT R) : KT R := fun fr H => opn 8 fr (fun s0 s1 s4 s5 s6 s12 s21 s31 => 
(k [s0, s1, (.str []), s5, s6, s12, s21, s31] H : R))
noncomputable def c70 (C : CallF) (l0 : List AV) (H : AH) (k : AV → AH → R) : R := opn 2 l0 (fun x0 x1 => (qFn (fun kr => (r70_0 (r70_1 (qCd (sel 5) (fun _ => (r70_2 kr)) (fun k3 => k3) (r70_3 (qCd (sel 6) (fun _ => (r70_4 C kr)) (fun k2 => k2) (r70_5 C (r70_6 (qCd (sel 7) (fun _ => (r70_7 C kr)) (fun k1 => k1) (r70_8 C kr))))))))))
(fun fr H => k (sel 2 fr) H) [x0, x1, Aes.undef, Aes.undef, Aes.undef, Aes.undef, Aes.undef, Aes.undef] H : R))
/- internal/stringslite.CutPrefix -/
noncomputable def r71_3 (k : KT R) : KT R := fun fr H => opn 5 fr (fun s0 s1 s4 s5 s9 => 
(qLenS s1 fun v13 =>
qSlc Tryd.t9.desc 0 s0 (some v13) none none fun v14 =>
k [s0, s1, v14, (.bool true), s9] H : R))
noncomputable def r71_2 (k : KT R) : KT R := fun fr H => opn 5 fr (fun s0 s1 s4 s5 s9 => 
(k [s0, s1, s0, (.bool false), s9] H : R))
noncomputable def r71_1 (C : CallF) (k : KT R) : KT R := fun fr H => opn 5 fr (fun s0 s1 s4 s5 s9 => 
(qRes (C 88 [s0, s1] H) fun v8 H =>
qNot v8 fun v9 =>
k [s0, s1, s4, s5, v9] H : R))
noncomputable def r71_0 (k : KT R) : KT R := fun fr H => opn 5 fr (fun s0 s1 s4 s5 s9 => 
(k [s0, s1, (.str []), (.bool false), s9] H : R))
noncomputable def c71 (C : CallF) (l0 : List AV) (H : AH) (k : AV → AH → R) : R := opn 2 l0 (fun x0 x1 => (qFn (fun kr => (r71_0 (r71_1 C (qCd (sel 4) (fun _ => (r71_2 kr)) (fun k1 => k1) (r71_3 kr)))))
(fun fr H => k (.tup [(sel 2 fr), (sel 3 fr)]) H) [x0, x1, Aes.undef, Aes.undef, Aes.undef] H : R))
/- internal/stringslite.IndexByte -/
noncomputable def r72_1 (C : CallF) (k : KT R) : KT R := fun fr H => opn 3 fr (fun s0 s1 s4 => 
(qRes (C 93 [s0, s1] H) fun v7 H =>
k [s0, s1, v7] H : R))
noncomputable def r72_0 (k : KT R) : KT R := fun fr H => opn 3 fr (fun s0 s1 s4 => 
(k [s0, s1, (.int .i64 0)] H : R))
noncomputable def c72 (C : CallF) (l0 : List AV) (H : AH) (k : AV → AH → R) : R := opn 2 l0 (fun x0 x1 => (qFn (fun kr => (r72_0 (r72_1 C kr)))
(fun fr H => k (sel 2 fr) H) [x0, x1, Aes.undef] H : R))
/- refectory/jval.names -/
noncomputable def r73_9 (k : KT R) : KT R := fun fr H => opn 9 fr (fun s0 s2 s3 s5 s7 s8 s9 s10 s20 => 
(k [s0, (.bool true), s3, s5, s7, s8, s9, s10, s20] H : R))
noncomputable def r73_8 (k : KT R) : KT R := fun fr H => opn 9 fr (fun s0 s2 s3 s5 s7 s8 s9 s10 s20 => 
(qAdd X 3 s9 (.int .i64 1) fun v23 =>
k [s0, s2, s3, s5, s7, s8, v23, s10, s20] H : R))
noncomputable def r73_7 (k : KT R) : KT R := fun fr H => opn 9 fr (fun s0 s2 s3 s5 s7 s8 s9 s10 s20 => 
(qMset X 111 s3 s5 (.bool true) H fun _ H =>
k [s0, s2, s3, s5, s7, s8, s9, s10, s20] H : R))
noncomputable def r73_6 (k : KT R) : KT R := fun fr H => opn 9 fr (fun s0 s2 s3 s5 s7 s8 s9 s10 s20 => 
(k [s0, (.bool false), s3, s5, s7, s8, s9, s10, s20] H : R))
noncomputable def r73_5 (C : CallF) (k : KT R) : KT R := fun fr H => opn 9 fr (fun s0 s2 s3 s5 s7 s8 s9 s10 s20 => 
(qO (lookup X 111 s3 s5 false H) fun v15 =>
qG v15 false (fun k => k s5 H) H fun v17 H =>
qG v15 false (fun k => qRes (C 30 [v17] H) k) H fun v18 H =>
qG v15 false (fun k => qNot v18 fun v => k v H) H fun v19 H =>
qPick v15 (.bool true) v19 fun v20 =>
k [s0, s2, s3, s5, s7, s8, s9, s10, v20] H : R))
noncomputable def r73_4 (k : KT R) : KT R := fun fr H => opn 9 fr (fun s0 s2 s3 s5 s7 s8 s9 s10 s20 => 
(qIa 1 s7 s9 fun v11 =>
qLd v11 H fun v12 =>
k [s0, s2, s3, v12, s7, s8, s9, s10, s20] H : R))
noncomputable def r73_3 (k : KT R) : KT R := fun fr H => opn 9 fr (fun s0 s2 s3 s5 s7 s8 s9 s10 s20 => 
(qLss X 3 s9 s8 fun v10 =>
k [s0, s2, s3, s5, s7, s8, s9, v10, s20] H : R))
noncomputable def l73_5 (C : CallF) (k1 : KT R) (kr : KT R) : KT R → KT R := fun k2 => (r73_3 (qCd (sel 7) (fun k5 => k5) (fun _ => k1) (qBl (fun k3 => (r73_4 (r73_5 C (qCd (sel 8) (fun _ => (r73_6 kr)) (fun k4 => k4) (r73_7 k3))))) (r73_8 k2))))
noncomputable def r73_2 (k : KT R) : KT R := fun fr H => opn 9 fr (fun s0 s2 s3 s5 s7 s8 s9 s10 s20 => 
(qLenL s0 fun v8 =>
k [s0, s2, s3, s5, s0, v8, (.int .i64 0), s10, s20] H : R))
noncomputable def r73_1 (k : KT R) : KT R := fun fr H => opn 9 fr (fun s0 s2 s3 s5 s7 s8 s9 s10 s20 => 
(qNew (.map []) .map H fun v6 H =>
k [s0, s2, v6, s5, s7, s8, s9, s10, s20] H : R))
noncomputable def r73_0 (k : KT R) : KT R := fun fr H => opn 9 fr (fun s0 s2 s3 s5 s7 s8 s9 s10 s20 => 
(k [s0, (.bool false), s3, s5, s7, s8, s9, s10, s20] H : R))
noncomputable def c73 (C : CallF) (l0 : List AV) (H : AH) (k : AV → AH → R) : R := opn 1 l0 (fun x0 => (qFn (fun kr => (r73_0 (r73_1 (r73_2 (qBl (fun k1 => (qLoop (l73_5 C k1 kr))) (r73_9 kr))))))
(fun fr H => k (sel 1 fr) H) [x0, Aes.undef, Aes.undef, Aes.undef, Aes.undef, Aes.undef, Aes.undef, Aes.undef, Aes.undef] H : R))
/- refectory/refectoryref02.names -/
noncomputable def r74_11 (k : KT R) : KT R := fun fr H => opn 8 fr (fun s0 s2 s3 s4 s8 s16 s19 s30 => 
(k [s0, (.bool true), s3, s4, s8, s16, s19, s30] H : R))
noncomputable def r74_3 (k : KT R) : KT R := fun fr H => opn 8 fr (fun s0 s2 s3 s4 s8 s16 s19 s30 => 
(qAdd X 3 s3 (.int .i64 1) fun v10 =>
k [s0, s2, v10, s4, s8, s16, s19, s30] H : R))
noncomputable def r74_8 (k : KT R) : KT R := fun fr H => opn 8 fr (fun s0 s2 s3 s4 s8 s16 s19 s30 => 
(qAdd X 3 s4 (.int .i64 1) fun v21 =>
k [s0, s2, s3, v21, s8, s16, s19, s30] H : R))
noncomputable def r74_10 (k : KT R) : KT R := fun fr H => opn 8 fr (fun s0 s2 s3 s4 s8 s16 s19 s30 => 
(k [s0, (.bool false), s3, s4, s8, s16, s19, s30] H : R))
noncomputable def r74_9 (k : KT R) : KT R := fun fr H => opn 8 fr (fun s0 s2 s3 s4 s8 s16 s19 s30 => 
(qIa 1 s0 s4 fun v24 =>
qLd v24 H fun v25 =>
qIa 1 s0 s3 fun v28 =>
qLd v28 H fun v29 =>
qEql X 9 v25 v29 fun v30 =>
k [s0, s2, s3, s4, s8, s16, s19, v30] H : R))
noncomputable def r74_7 (k : KT R) : KT R := fun fr H => opn 8 fr (fun s0 s2 s3 s4 s8 s16 s19 s30 => 
(qLss X 3 s4 s3 fun v19 =>
k [s0, s2, s3, s4, s8, s16, v19, s30] H : R))
noncomputable def l74_8 (k4 : KT R) (kr : KT R) : KT R → KT R := fun k5 => (r74_7 (qCd (sel 6) (fun k8 => k8) (fun _ => k4) (qBl (fun k6 => (r74_9 (qCd (sel 7) (fun _ => (r74_10 kr)) (fun k7 => k7) k6))) (r74_8 k5))))
noncomputable def r74_6 (k : KT R) : KT R := fun fr H => opn 8 fr (fun s0 s2 s3 s4 s8 s16 s19 s30 => 
(k [s0, s2, s3, (.int .i64 0), s8, s16, s19, s30] H : R))
noncomputable def r74_5 (k : KT R) : KT R := fun fr H => opn 8 fr (fun s0 s2 s3 s4 s8 s16 s19 s30 => 
(k [s0, (.bool false), s3, s4, s8, s16, s19, s30] H : R))
noncomputable def r74_4 (C : CallF) (k : KT R) : KT R := fun fr H => opn 8 fr (fun s0 s2 s3 s4 s8 s16 s19 s30 => 
(qIa 1 s0 s3 fun v13 =>
qLd v13 H fun v14 =>
qRes (C 35 [v14] H) fun v15 H =>
qNot v15 fun v16 =>
k [s0, s2, s3, s4, s8, v16, s19, s30] H : R))
noncomputable def r74_2 (k : KT R) : KT R := fun fr H => opn 8 fr (fun s0 s2 s3 s4 s8 s16 s19 s30 => 
(qLenL s0 fun v7 =>
qLss X 3 s3 v7 fun v8 =>
k [s0, s2, s3, s4, v8, s16, s19, s30] H : R))
noncomputable def l74_10 (C : CallF) (k1 : KT R) (kr : KT R) : KT R → KT R := fun k2 => (r74_2 (qCd (sel 4) (fun k10 => k10) (fun _ => k1) (qBl (fun k3 => (r74_4 C (qCd (sel 5) (fun _ => (r74_5 kr)) (fun k9 => k9) (r74_6 (qBl (fun k4 => (qLoop (l74_8 k4 kr))) k3))))) (r74_3 k2))))
noncomputable def r74_1 (k : KT R) : KT R := fun fr H => opn 8 fr (fun s0 s2 s3 s4 s8 s16 s19 s30 => 
(k [s0, s2, (.int .i64 0), s4, s8, s16, s19, s30] H : R))
noncomputable def r74_0 (k : KT R) : KT R := fun fr H => opn 8 fr (fun s0 s2 s3 s4 s8 s16 s19 s30 => 
(k [s0, (.bool false), s3, s4, s8, s16, s19, s30] H : R))
noncomputable def c74 (C : CallF) (l0 : List AV) (H : AH) (k : AV → AH → R) : R := opn 1 l0 (fun x0 => (qFn (fun kr => (r74_0 (r74_1 (qBl (fun k1 => (qLoop (l74_10 C k1 kr))) (r74_11 kr)))))
(fun fr H => k (sel 1 fr) H) [x0, Aes.undef, Aes.undef, Aes.undef, Aes.undef, Aes.undef, Aes.undef, Aes.undef] H : R))
/- unicode/utf8.ValidRune -/
noncomputable def r76_5 (k : KT R) : KT R := fun fr H => opn 4 fr (fun s0 s2 s3 s10 => 
(k [s0, (.bool false), s3, s10] H : R))
noncomputable def r76_2 (k : KT R) : KT R := fun fr H => opn 4 fr (fun s0 s2 s3 s10 => 
(k [s0, (.bool true), s3, s10] H : R))
noncomputable def r76_4 (k : KT R) : KT R := fun fr H => opn 4 fr (fun s0 s2 s3 s10 => 
(k [s0, (.bool true), s3, s10] H : R))
noncomputable def r76_3 (k : KT R) : KT R := fun fr H => opn 4 fr (fun s0 s2 s3 s10 => 
(qLss X 21 (.int .i32 57343) s0 fun v12 =>
qG v12 true (fun k => k s0 H) H fun v14 H =>
qG v12 true (fun k => qLeq X 21 v14 (.int .i32 1114111) fun v => k v H) H fun v15 H =>
qPick v12 v15 (.bool false) fun v16 =>
k [s0, s2, s3, v16] H : R))
noncomputable def r76_1 (k : KT R) : KT R := fun fr H => opn 4 fr (fun s0 s2 s3 s10 => 
(qLeq X 21 (.int .i32 0) s0 fun v5 =>
qG v5 true (fun k => k s0 H) H fun v7 H =>
qG v5 true (fun k => qLss X 21 v7 (.int .i32 55296) fun v => k v H) H fun v8 H =>
qPick v5 v8 (.bool false) fun v9 =>
k [s0, s2, v9, s10] H : R))
noncomputable def r76_0 (k : KT R) : KT R := fun fr H => opn 4 fr (fun s0 s2 s3 s10 => 
(k [s0, (.bool false), s3, s10] H : R))
noncomputable def c76 (C : CallF) (l0 : List AV) (H : AH) (k : AV → AH → R) : R := opn 1 l0 (fun x0 => (qFn (fun kr => (r76_0 (qBl (fun k1 => (r76_1 (qCd (sel 2) (fun _ => (r76_2 kr)) (fun k2 => (r76_3 (qCd (sel 3) (fun _ => (r76_4 kr)) (fun k3 => k3) k2))) k1))) (r76_5 kr))))
(fun fr H => k (sel 1 fr) H) [x0, Aes.undef, Aes.undef, Aes.undef] H : R))
/- internal/bytealg.Cutover -/
noncomputable def r77_1 (k : KT R) : KT R := fun fr H => opn 2 fr (fun s0 s2 => 
(qAdd X 3 s0 (.int .i64 16) fun v4 =>
qQuo X 3 v4 (.int .i64 8) fun v5 =>
k [s0, v5] H : R))
noncomputable def r77_0 (k : KT R) : KT R := fun fr H => opn 2 fr (fun s0 s2 => 
(k [s0, (.int .i64 0)] H : R))
noncomputable def c77 (C : CallF) (l0 : List AV) (H : AH) (k : AV → AH → R) : R := opn 1 l0 (fun x0 => (qFn (fun kr => (r77_0 (r77_1 kr)))
(fun fr H => k (sel 1 fr) H) [x0, Aes.undef] H : R))
/- unicode/utf8.AppendRune -/
noncomputable def r79_3 (C : CallF) (k : KT R) : KT R := fun fr H => opn 4 fr (fun s0 s1 s4 s7 => 
(qRes (C 95 [s0, s1] H) fun v15 H =>
k [s0, s1, v15, s7] H : R))
noncomputable def r79_2 (k : KT R) : KT R := fun fr H => opn 4 fr (fun s0 s1 s4 s7 => 
(qConvI .u8 s1 fun v10 =>
qRows z5 1 [(0, v10)] fun v11 =>
qApp 1 1 s0 v11 true (some 5) H fun v12 H =>
k [s0, s1, v12, s7] H : R))
noncomputable def r79_1 (k : KT R) : KT R := fun fr H => opn 4 fr (fun s0 s1 s4 s7 => 
(qConvI .u32 s1 fun v6 =>
qLeq X 114 v6 (.int .u32 127) fun v7 =>
k [s0, s1, s4, v7] H : R))
noncomputable def r79_0 (k : KT R) : KT R := fun fr H => opn 4 fr (fun s0 s1 s4 s7 => 
(k [s0, s1, (.sl [] .nil), s7] H : R))
noncomputable def c79 (C : CallF) (l0 : List AV) (H : AH) (k : AV → AH → R) : R := opn 2 l0 (fun x0 x1 => (qFn (fun kr => (r79_0 (r79_1 (qCd (sel 3) (fun _ => (r79_2 kr)) (fun k1 => k1) (r79_3 C kr)))))
(fun fr H => k (sel 2 fr) H) [x0, x1, Aes.undef, Aes.undef] H : R))
/- unicode/utf8.word[string] -/
noncomputable def r80_2 (k : KT R) : KT R := fun fr H => opn 2 fr (fun s0 s2 => 
(qIx s0 (.int .i64 0) fun v22 =>
qConvI .u64 v22 fun v23 =>
qIx s0 (.int .i64 1) fun v25 =>
qConvI .u64 v25 fun v26 =>
qO (binop X .shl 115 v26 (.int .u64 8)) fun v27 =>
qO (binop X .or 115 v23 v27) fun v28 =>
qIx s0 (.int .i64 2) fun v30 =>
qConvI .u64 v30 fun v31 =>
qO (binop X .shl 115 v31 (.int .u64 16)) fun v32 =>
qO (binop X .or 115 v28 v32) fun v33 =>
qIx s0 (.int .i64 3) fun v35 =>
qConvI .u64 v35 fun v36 =>
qO (binop X .shl 115 v36 (.int .u64 24)) fun v37 =>
qO (binop X .or 115 v33 v37) fun v38 =>
qIx s0 (.int .i64 4) fun v40 =>
qConvI .u64 v40 fun v41 =>
qO (binop X .shl 115 v41 (.int .u64 32)) fun v42 =>
qO (binop X .or 115 v38 v42) fun v43 =>
qIx s0 (.int .i64 5) fun v45 =>
qConvI .u64 v45 fun v46 =>
qO (binop X .shl 115 v46 (.int .u64 40)) fun v47 =>
qO (binop X .or 115 v43 v47) fun v48 =>
qIx s0 (.int .i64 6) fun v50 =>
qConvI .u64 v50 fun v51 =>
qO (binop X .shl 115 v51 (.int .u64 48)) fun v52 =>
qO (binop X .or 115 v48 v52) fun v53 =>
qIx s0 (.int .i64 7) fun v55 =>
qConvI .u64 v55 fun v56 =>
qO (binop X .shl 115 v56 (.int .u64 56)) fun v57 =>
qO (binop X .or 115 v53 v57) fun v58 =>
k [s0, v58] H : R))
noncomputable def r80_1 (k : KT R) : KT R := fun fr H => opn 2 fr (fun s0 s2 => 
(qIx s0 (.int .i64 0) fun v4 =>
qConvI .u64 v4 fun v5 =>
qIx s0 (.int .i64 1) fun v7 =>
qConvI .u64 v7 fun v8 =>
qO (binop X .shl 12 v8 (.int .u64 8)) fun v9 =>
qO (binop X .or 12 v5 v9) fun v10 =>
qIx s0 (.int .i64 2) fun v12 =>
qConvI .u64 v12 fun v13 =>
qO (binop X .shl 12 v13 (.int .u64 16)) fun v14 =>
qO (binop X .or 12 v10 v14) fun v15 =>
qIx s0 (.int .i64 3) fun v17 =>
qConvI .u64 v17 fun v18 =>
qO (binop X .shl 12 v18 (.int .u64 24)) fun v19 =>
qO (binop X .or 12 v15 v19) fun v20 =>
k [s0, v20] H : R))
noncomputable def r80_0 (k : KT R) : KT R := fun fr H => opn 2 fr (fun s0 s2 => 
(k [s0, (.int .u64 0)] H : R))
noncomputable def c80 (C : CallF) (l0 : List AV) (H : AH) (k : AV → AH → R) : R := opn 1 l0 (fun x0 => (qFn (fun kr => (r80_0 (qCd (fun _ => (.bool false)) (fun _ => (r80_1 kr)) (fun k1 => k1) (r80_2 kr))))
(fun fr H => k (sel 1 fr) H) [x0, Aes.undef] H : R))
/- refectory/runes.four -/
noncomputable def r81_11 (k : KT R) : KT R := fun fr H => opn 10 fr (fun s0 s2 s3 s5 s6 s9 s13 s14 s15 s20 => 
(k [s0, s3, s3, s5, s6, s9, s13, s14, s15, s20] H : R))
noncomputable def r81_10 (k : KT R) : KT R := fun fr H => opn 10 fr (fun s0 s2 s3 s5 s6 s9 s13 s14 s15 s20 => 
(qO (binop X .shl 21 s3 (.int .u64 4)) fun v22 =>
qConvI .i32 s6 fun v24 =>
qO (binop X .or 21 v22 v24) fun v25 =>
k [s0, s2, v25, s5, s6, s9, s13, s14, s15, s20] H : R))
noncomputable def r81_9 (k : KT R) : KT R := fun fr H => opn 10 fr (fun s0 s2 s3 s5 s6 s9 s13 s14 s15 s20 => 
(k [s0, (.int .i32 (-1)), s3, s5, s6, s9, s13, s14, s15, s20] H : R))
noncomputable def r81_8 (k : KT R) : KT R := fun fr H => opn 10 fr (fun s0 s2 s3 s5 s6 s9 s13 s14 s15 s20 => 
(qLss X 3 s6 (.int .i64 0) fun v20 =>
k [s0, s2, s3, s5, s6, s9, s13, s14, s15, v20] H : R))
noncomputable def r81_7 (C : CallF) (k : KT R) : KT R := fun fr H => opn 10 fr (fun s0 s2 s3 s5 s6 s9 s13 s14 s15 s20 => 
(qRes (C 52 [(.str [48,49,50,51,52,53,54,55,56,57,97,98,99,100,101,102]), s5] H) fun v18 H =>
k [s0, s2, s3, s5, v18, s9, s13, s14, s15, s20] H : R))
noncomputable def r81_6 (k : KT R) : KT R := fun fr H => opn 10 fr (fun s0 s2 s3 s5 s6 s9 s13 s14 s15 s20 => 
(qExt s14 2 fun v16 =>
k [s0, s2, s3, v16, s6, s9, s13, s14, s15, s20] H : R))
noncomputable def r81_5 (k : KT R) : KT R := fun fr H => opn 10 fr (fun s0 s2 s3 s5 s6 s9 s13 s14 s15 s20 => 
(qNext s13 H fun v14 H =>
qExt v14 0 fun v15 =>
k [s0, s2, s3, s5, s6, s9, s13, v14, v15, s20] H : R))
noncomputable def l81_5 (C : CallF) (k1 : KT R) (kr : KT R) : KT R → KT R := fun k2 => (r81_5 (qCd (sel 8) (fun k5 => k5) (fun _ => k1) (qBl (fun k3 => (r81_6 (r81_7 C (r81_8 (qCd (sel 9) (fun _ => (r81_9 kr)) (fun k4 => k4) (r81_10 k3)))))) k2)))
noncomputable def r81_4 (C : CallF) (k : KT R) : KT R := fun fr H => opn 10 fr (fun s0 s2 s3 s5 s6 s9 s13 s14 s15 s20 => 
(qSlc Tryd.t9.desc 0 s0 none (some (.int .i64 4)) none fun v11 =>
qRes (C 96 [v11] H) fun v12 H =>
qRange v12 H fun v13 H =>
k [s0, s2, s3, s5, s6, s9, v13, s14, s15, s20] H : R))
noncomputable def r81_3 (k : KT R) : KT R := fun fr H => opn 10 fr (fun s0 s2 s3 s5 s6 s9 s13 s14 s15 s20 => 
(k [s0, s2, (.int .i32 0), s5, s6, s9, s13, s14, s15, s20] H : R))
noncomputable def r81_2 (k : KT R) : KT R := fun fr H => opn 10 fr (fun s0 s2 s3 s5 s6 s9 s13 s14 s15 s20 => 
(k [s0, (.int .i32 (-1)), s3, s5, s6, s9, s13, s14, s15, s20] H : R))
noncomputable def r81_1 (k : KT R) : KT R := fun fr H => opn 10 fr (fun s0 s2 s3 s5 s6 s9 s13 s14 s15 s20 => 
(qLenS s0 fun v8 =>
qLss X 3 v8 (.int .i64 4) fun v9 =>
k [s0, s2, s3, s5, s6, v9, s13, s14, s15, s20] H : R))
noncomputable def r81_0 (k : KT R) : KT R := fun fr H => opn 10 fr (fun s0 s2 s3 s5 s6 s9 s13 s14 s15 s20 => 
(k [s0, (.int .i32 0), s3, s5, s6, s9, s13, s14, s15, s20] H : R))
noncomputable def c81 (C : CallF) (l0 : List AV) (H : AH) (k : AV → AH → R) : R := opn 1 l0 (fun x0 => (qFn (fun kr => (r81_0 (r81_1 (qCd (sel 5) (fun _ => (r81_2 kr)) (fun k6 => k6) (r81_3 (r81_4 C (qBl (fun k1 => (qLoop (l81_5 C k1 kr))) (r81_11 kr))))))))
(fun fr H => k (sel 1 fr) H) [x0, Aes.undef, Aes.undef, Aes.undef, Aes.undef, Aes.undef, Aes.undef, Aes.undef, Aes.undef, Aes.undef] H : R))
/- strings.HasPrefix -/
noncomputable def r82_1 (C : CallF) (k : KT R) : KT R := fun fr H => opn 3 fr (fun s0 s1 s4 => 
(qRes (C 88 [s0, s1] H) fun v7 H =>
k [s0, s1, v7] H : R))
noncomputable def r82_0 (k : KT R) : KT R := fun fr H => opn 3 fr (fun s0 s1 s4 => 
(k [s0, s1, (.bool false)] H : R))
noncomputable def c82 (C : CallF) (l0 : List AV) (H : AH) (k : AV → AH → R) : R := opn 2 l0 (fun x0 x1 => (qFn (fun kr => (r82_0 (r82_1 C kr)))
(fun fr H => k (sel 2 fr) H) [x0, x1, Aes.undef] H : R))
/- refectory/refectoryref01.Hex -/
noncomputable def r83_15 (k : KT R) : KT R := fun fr H => opn 11 fr (fun s0 s1 s4 s5 s6 s7 s12 s17 s23 s32 s46 => 
(k [s0, s1, s5, s5, s6, s7, s12, s17, s23, s32, s46] H : R))
noncomputable def r83_6 (k : KT R) : KT R := fun fr H => opn 11 fr (fun s0 s1 s4 s5 s6 s7 s12 s17 s23 s32 s46 => 
(qAdd X 3 s6 (.int .i64 1) fun v19 =>
k [s0, s1, s4, s5, v19, s7, s12, s17, s23, s32, s46] H : R))
noncomputable def r83_10 (k : KT R) : KT R := fun fr H => opn 11 fr (fun s0 s1 s4 s5 s6 s7 s12 s17 s23 s32 s46 => 
(qMul X 3 (.int .i64 16) s5 fun v27 =>
qSub X 5 s7 (.int .u8 48) fun v29 =>
qConvI .i64 v29 fun v30 =>
qAdd X 3 v27 v30 fun v31 =>
k [s0, s1, s4, v31, s6, s7, s12, s17, s23, s32, s46] H : R))
noncomputable def r83_12 (k : KT R) : KT R := fun fr H => opn 11 fr (fun s0 s1 s4 s5 s6 s7 s12 s17 s23 s32 s46 => 
(qMul X 3 (.int .i64 16) s5 fun v40 =>
qSub X 5 s7 (.int .u8 97) fun v42 =>
qConvI .i64 v42 fun v43 =>
qAdd X 3 v40 v43 fun v44 =>
qAdd X 3 v44 (.int .i64 10) fun v45 =>
k [s0, s1, s4, v45, s6, s7, s12, s17, s23, s32, s46] H : R))
noncomputable def r83_14 (k : KT R) : KT R := fun fr H => opn 11 fr (fun s0 s1 s4 s5 s6 s7 s12 s17 s23 s32 s46 => 
(qMul X 3 (.int .i64 16) s5 fun v54 =>
qSub X 5 s7 (.int .u8 65) fun v56 =>
qConvI .i64 v56 fun v57 =>
qAdd X 3 v54 v57 fun v58 =>
qAdd X 3 v58 (.int .i64 10) fun v59 =>
k [s0, s1, s4, v59, s6, s7, s12, s17, s23, s32, s46] H : R))
noncomputable def r83_8 (k : KT R) : KT R := fun fr H => opn 11 fr (fun s0 s1 s4 s5 s6 s7 s12 s17 s23 s32 s46 => 
(k [s0, s1, (.int .i64 (-1)), s5, s6, s7, s12, s17, s23, s32, s46] H : R))
noncomputable def r83_13 (k : KT R) : KT R := fun fr H => opn 11 fr (fun s0 s1 s4 s5 s6 s7 s12 s17 s23 s32 s46 => 
(qGeq X 5 s7 (.int .u8 65) fun v48 =>
qG v48 true (fun k => k s7 H) H fun v50 H =>
qG v48 true (fun k => qLeq X 5 v50 (.int .u8 70) fun v => k v H) H fun v51 H =>
qPick v48 v51 (.bool false) fun v52 =>
k [s0, s1, s4, s5, s6, s7, s12, s17, s23, s32, v52] H : R))
noncomputable def r83_11 (k : KT R) : KT R := fun fr H => opn 11 fr (fun s0 s1 s4 s5 s6 s7 s12 s17 s23 s32 s46 => 
(qGeq X 5 s7 (.int .u8 97) fun v34 =>
qG v34 true (fun k => k s7 H) H fun v36 H =>
qG v34 true (fun k => qLeq X 5 v36 (.int .u8 102) fun v => k v H) H fun v37 H =>
qPick v34 v37 (.bool false) fun v38 =>
k [s0, s1, s4, s5, s6, s7, s12, s17, s23, v38, s46] H : R))
noncomputable def r83_9 (C : CallF) (k : KT R) : KT R := fun fr H => opn 11 fr (fun s0 s1 s4 s5 s6 s7 s12 s17 s23 s32 s46 => 
(qRes (C 60 [s7] H) fun v25 H =>
k [s0, s1, s4, s5, s6, s7, s12, s17, v25, s32, s46] H : R))
noncomputable def r83_7 (k : KT R) : KT R := fun fr H => opn 11 fr (fun s0 s1 s4 s5 s6 s7 s12 s17 s23 s32 s46 => 
(qIx s0 s6 fun v22 =>
k [s0, s1, s4, s5, s6, v22, s12, s17, s23, s32, s46] H : R))
noncomputable def r83_5 (k : KT R) : KT R := fun fr H => opn 11 fr (fun s0 s1 s4 s5 s6 s7 s12 s17 s23 s32 s46 => 
(qAdd X 3 s1 (.int .i64 4) fun v16 =>
qLss X 3 s6 v16 fun v17 =>
k [s0, s1, s4, s5, s6, s7, s12, v17, s23, s32, s46] H : R))
noncomputable def l83_8 (C : CallF) (k1 : KT R) (kr : KT R) : KT R → KT R := fun k2 => (r83_5 (qCd (sel 7) (fun k8 => k8) (fun _ => k1) (qBl (fun k3 => (r83_7 (qBl (fun k4 => (r83_9 C (qCd (sel 8) (fun k5 => (r83_10 k5)) (fun k5 => (r83_11 (qCd (sel 9) (fun k6 => (r83_12 k6)) (fun k6 => (r83_13 (qCd (sel 10) (fun k7 => (r83_14 k7)) (fun _ => (r83_8 kr)) k6))) k5))) k4))) k3))) (r83_6 k2))))
noncomputable def r83_4 (k : KT R) : KT R := fun fr H => opn 11 fr (fun s0 s1 s4 s5 s6 s7 s12 s17 s23 s32 s46 => 
(k [s0, s1, s4, s5, s1, s7, s12, s17, s23, s32, s46] H : R))
noncomputable def r83_3 (k : KT R) : KT R := fun fr H => opn 11 fr (fun s0 s1 s4 s5 s6 s7 s12 s17 s23 s32 s46 => 
(k [s0, s1, s4, (.int .i64 0), s6, s7, s12, s17, s23, s32, s46] H : R))
noncomputable def r83_2 (k : KT R) : KT R := fun fr H => opn 11 fr (fun s0 s1 s4 s5 s6 s7 s12 s17 s23 s32 s46 => 
(k [s0, s1, (.int .i64 (-1)), s5, s6, s7, s12, s17, s23, s32, s46] H : R))
noncomputable def r83_1 (k : KT R) : KT R := fun fr H => opn 11 fr (fun s0 s1 s4 s5 s6 s7 s12 s17 s23 s32 s46 => 
(qAdd X 3 s1 (.int .i64 4) fun v9 =>
qLenS s0 fun v11 =>
qGtr X 3 v9 v11 fun v12 =>
k [s0, s1, s4, s5, s6, s7, v12, s17, s23, s32, s46] H : R))
noncomputable def r83_0 (k : KT R) : KT R := fun fr H => opn 11 fr (fun s0 s1 s4 s5 s6 s7 s12 s17 s23 s32 s46 => 
(k [s0, s1, (.int .i64 0), s5, s6, s7, s12, s17, s23, s32, s46] H : R))
noncomputable def c83 (C : CallF) (l0 : List AV) (H : AH) (k : AV → AH → R) : R := opn 2 l0 (fun x0 x1 => (qFn (fun kr => (r83_0 (r83_1 (qCd (sel 6) (fun _ => (r83_2 kr)) (fun k9 => k9) (r83_3 (r83_4 (qBl (fun k1 => (qLoop (l83_8 C k1 kr))) (r83_15 kr))))))))
(fun fr H => k (sel 2 fr) H) [x0, x1, Aes.undef, Aes.undef, Aes.undef, Aes.undef, Aes.undef, Aes.undef, Aes.undef, Aes.undef, Aes.undef] H : R))
/- refectory/refectoryref01.bytes -/
noncomputable def r84_7 (k : KT R) : KT R := fun fr H => opn 5 fr (fun s0 s2 s3 s10 s23 => 
(qO (binop X .shr 3 s0 (.int .u64 18)) fun v42 =>
qO (binop X .or 3 (.int .i64 240) v42) fun v43 =>
qConvI .u8 v43 fun v44 =>
qO (binop X .shr 3 s0 (.int .u64 12)) fun v46 =>
qO (binop X .and 3 v46 (.int .i64 63)) fun v47 =>
qO (binop X .or 3 (.int .i64 128) v47) fun v48 =>
qConvI .u8 v48 fun v49 =>
qO (binop X .shr 3 s0 (.int .u64 6)) fun v51 =>
qO (binop X .and 3 v51 (.int .i64 63)) fun v52 =>
qO (binop X .or 3 (.int .i64 128) v52) fun v53 =>
qConvI .u8 v53 fun v54 =>
qO (binop X .and 3 s0 (.int .i64 63)) fun v56 =>
qO (binop X .or 3 (.int .i64 128) v56) fun v57 =>
qConvI .u8 v57 fun v58 =>
qRows z5 4 [(0, v44), (1, v49), (2, v54), (3, v58)] fun v59 =>
qBstr v59 H fun v60 =>
k [s0, v60, s3, s10, s23] H : R))
noncomputable def r84_2 (k : KT R) : KT R := fun fr H => opn 5 fr (fun s0 s2 s3 s10 s23 => 
(qConvI .u8 s0 fun v7 =>
qRows z5 1 [(0, v7)] fun v8 =>
qBstr v8 H fun v9 =>
k [s0, v9, s3, s10, s23] H : R))
noncomputable def r84_4 (k : KT R) : KT R := fun fr H => opn 5 fr (fun s0 s2 s3 s10 s23 => 
(qO (binop X .shr 3 s0 (.int .u64 6)) fun v14 =>
qO (binop X .or 3 (.int .i64 192) v14) fun v15 =>
qConvI .u8 v15 fun v16 =>
qO (binop X .and 3 s0 (.int .i64 63)) fun v18 =>
qO (binop X .or 3 (.int .i64 128) v18) fun v19 =>
qConvI .u8 v19 fun v20 =>
qRows z5 2 [(0, v16), (1, v20)] fun v21 =>
qBstr v21 H fun v22 =>
k [s0, v22, s3, s10, s23] H : R))
noncomputable def r84_6 (k : KT R) : KT R := fun fr H => opn 5 fr (fun s0 s2 s3 s10 s23 => 
(qO (binop X .shr 3 s0 (.int .u64 12)) fun v27 =>
qO (binop X .or 3 (.int .i64 224) v27) fun v28 =>
qConvI .u8 v28 fun v29 =>
qO (binop X .shr 3 s0 (.int .u64 6)) fun v31 =>
qO (binop X .and 3 v31 (.int .i64 63)) fun v32 =>
qO (binop X .or 3 (.int .i64 128) v32) fun v33 =>
qConvI .u8 v33 fun v34 =>
qO (binop X .and 3 s0 (.int .i64 63)) fun v36 =>
qO (binop X .or 3 (.int .i64 128) v36) fun v37 =>
qConvI .u8 v37 fun v38 =>
qRows z5 3 [(0, v29), (1, v34), (2, v38)] fun v39 =>
qBstr v39 H fun v40 =>
k [s0, v40, s3, s10, s23] H : R))
noncomputable def r84_5 (k : KT R) : KT R := fun fr H => opn 5 fr (fun s0 s2 s3 s10 s23 => 
(qLss X 3 s0 (.int .i64 65536) fun v25 =>
k [s0, s2, s3, s10, v25] H : R))
noncomputable def r84_3 (k : KT R) : KT R := fun fr H => opn 5 fr (fun s0 s2 s3 s10 s23 => 
(qLss X 3 s0 (.int .i64 2048) fun v12 =>
k [s0, s2, s3, v12, s23] H : R))
noncomputable def r84_1 (k : KT R) : KT R := fun fr H => opn 5 fr (fun s0 s2 s3 s10 s23 => 
(qLss X 3 s0 (.int .i64 128) fun v5 =>
k [s0, s2, v5, s10, s23] H : R))
noncomputable def r84_0 (k : KT R) : KT R := fun fr H => opn 5 fr (fun s0 s2 s3 s10 s23 => 
(k [s0, (.str []), s3, s10, s23] H : R))
noncomputable def c84 (C : CallF) (l0 : List AV) (H : AH) (k : AV → AH → R) : R := opn 1 l0 (fun x0 => (qFn (fun kr => (r84_0 (qBl (fun k1 => (r84_1 (qCd (sel 2) (fun _ => (r84_2 kr)) (fun k2 => (r84_3 (qCd (sel 3) (fun _ => (r84_4 kr)) (fun k3 => (r84_5 (qCd (sel 4) (fun _ => (r84_6 kr)) (fun k4 => k4) k3))) k2))) k1))) (r84_7 kr))))
(fun fr H => k (sel 1 fr) H) [x0, Aes.undef, Aes.undef, Aes.undef, Aes.undef] H : R))
/- strings.genSplit -/
noncomputable def r85_18 (k : KT R) : KT R := fun fr H => opn 13 fr (fun s0 s1 s2 s3 s8 s9 s10 s11 s13 s15 s20 s36 s41 => 
(qAdd X 3 s10 (.int .i64 1) fun v64 =>
qSlc Tryd.t22.desc 1 s9 none (some v64) none fun v65 =>
k [s0, s1, s2, s3, v65, s9, s10, s11, s13, s15, s20, s36, s41] H : R))
noncomputable def r85_17 (k : KT R) : KT R := fun fr H => opn 13 fr (fun s0 s1 s2 s3 s8 s9 s10 s11 s13 s15 s20 s36 s41 => 
(qIa 1 s9 s10 fun v61 =>
qSt 1 v61 s0 H fun _ H =>
k [s0, s1, s2, s3, s8, s9, s10, s11, s13, s15, s20, s36, s41] H : R))
noncomputable def r85_16 (k : KT R) : KT R := fun fr H => opn 13 fr (fun s0 s1 s2 s3 s8 s9 s10 s11 s13 s15 s20 s36 s41 => 
(qAdd X 3 s10 (.int .i64 1) fun v57 =>
k [s0, s1, s2, s3, s8, s9, v57, s11, s13, s15, s20, s36, s41] H : R))
noncomputable def r85_15 (k : KT R) : KT R := fun fr H => opn 13 fr (fun s0 s1 s2 s3 s8 s9 s10 s11 s13 s15 s20 s36 s41 => 
(qLenS s1 fun v53 =>
qAdd X 3 s11 v53 fun v54 =>
qSlc Tryd.t9.desc 0 s0 (some v54) none none fun v55 =>
k [v55, s1, s2, s3, s8, s9, s10, s11, s13, s15, s20, s36, s41] H : R))
noncomputable def r85_14 (k : KT R) : KT R := fun fr H => opn 13 fr (fun s0 s1 s2 s3 s8 s9 s10 s11 s13 s15 s20 s36 s41 => 
(qAdd X 3 s11 s2 fun v47 =>
qSlc Tryd.t9.desc 0 s0 none (some v47) none fun v48 =>
qIa 1 s9 s10 fun v49 =>
qSt 1 v49 v48 H fun _ H =>
k [s0, s1, s2, s3, s8, s9, s10, s11, s13, s15, s20, s36, s41] H : R))
noncomputable def r85_13 (k : KT R) : KT R := fun fr H => opn 13 fr (fun s0 s1 s2 s3 s8 s9 s10 s11 s13 s15 s20 s36 s41 => 
(qLss X 3 s11 (.int .i64 0) fun v41 =>
k [s0, s1, s2, s3, s8, s9, s10, s11, s13, s15, s20, s36, v41] H : R))
noncomputable def r85_12 (C : CallF) (k : KT R) : KT R := fun fr H => opn 13 fr (fun s0 s1 s2 s3 s8 s9 s10 s11 s13 s15 s20 s36 s41 => 
(qRes (C 99 [s0, s1] H) fun v39 H =>
k [s0, s1, s2, s3, s8, s9, s10, v39, s13, s15, s20, s36, s41] H : R))
noncomputable def r85_11 (k : KT R) : KT R := fun fr H => opn 13 fr (fun s0 s1 s2 s3 s8 s9 s10 s11 s13 s15 s20 s36 s41 => 
(qLss X 3 s10 s3 fun v36 =>
k [s0, s1, s2, s3, s8, s9, s10, s11, s13, s15, s20, v36, s41] H : R))
noncomputable def l85_5 (C : CallF) (k1 : KT R) : KT R → KT R := fun k2 => (r85_11 (qCd (sel 11) (fun k5 => k5) (fun _ => k1) (qBl (fun k3 => (r85_12 C (r85_13 (qCd (sel 12) (fun _ => k1) (fun k4 => k4) (r85_14 (r85_15 (r85_16 k3))))))) k2)))
noncomputable def r85_10 (k : KT R) : KT R := fun fr H => opn 13 fr (fun s0 s1 s2 s3 s8 s9 s10 s11 s13 s15 s20 s36 s41 => 
(k [s0, s1, s2, s3, s8, s9, (.int .i64 0), s11, s13, s15, s20, s36, s41] H : R))
noncomputable def r85_9 (k : KT R) : KT R := fun fr H => opn 13 fr (fun s0 s1 s2 s3 s8 s9 s10 s11 s13 s15 s20 s36 s41 => 
(qSub X 3 s3 (.int .i64 1) fun v33 =>
k [s0, s1, s2, v33, s8, s9, s10, s11, s13, s15, s20, s36, s41] H : R))
noncomputable def r85_8 (k : KT R) : KT R := fun fr H => opn 13 fr (fun s0 s1 s2 s3 s8 s9 s10 s11 s13 s15 s20 s36 s41 => 
(qMkS z9 1 16 s3 s3 H fun v31 H =>
k [s0, s1, s2, s3, s8, v31, s10, s11, s13, s15, s20, s36, s41] H : R))
noncomputable def r85_7 (k : KT R) : KT R := fun fr H => opn 13 fr (fun s0 s1 s2 s3 s8 s9 s10 s11 s13 s15 s20 s36 s41 => 
(qLenS s0 fun v27 =>
qAdd X 3 v27 (.int .i64 1) fun v28 =>
qO (foldO min2 s3 [v28]) fun v29 =>
k [s0, s1, s2, v29, s8, s9, s10, s11, s13, s15, s20, s36, s41] H : R))
noncomputable def r85_6 (C : CallF) (k : KT R) : KT R := fun fr H => opn 13 fr (fun s0 s1 s2 s3 s8 s9 s10 s11 s13 s15 s20 s36 s41 => 
(qRes (C 98 [s0, s1] H) fun v23 H =>
qAdd X 3 v23 (.int .i64 1) fun v24 =>
k [s0, s1, s2, v24, s8, s9, s10, s11, s13, s15, s20, s36, s41] H : R))
noncomputable def r85_5 (k : KT R) : KT R := fun fr H => opn 13 fr (fun s0 s1 s2 s3 s8 s9 s10 s11 s13 s15 s20 s36 s41 => 
(qLss X 3 s3 (.int .i64 0) fun v20 =>
k [s0, s1, s2, s3, s8, s9, s10, s11, s13, s15, v20, s36, s41] H : R))
noncomputable def r85_4 (C : CallF) (k : KT R) : KT R := fun fr H => opn 13 fr (fun s0 s1 s2 s3 s8 s9 s10 s11 s13 s15 s20 s36 s41 => 
(qRes (C 97 [s0, s3] H) fun v18 H =>
k [s0, s1, s2, s3, v18, s9, s10, s11, s13, s15, s20, s36, s41] H : R))
noncomputable def r85_3 (k : KT R) : KT R := fun fr H => opn 13 fr (fun s0 s1 s2 s3 s8 s9 s10 s11 s13 s15 s20 s36 s41 => 
(qEql X 9 s1 (.str []) fun v15 =>
k [s0, s1, s2, s3, s8, s9, s10, s11, s13, v15, s20, s36, s41] H : R))
noncomputable def r85_2 (k : KT R) : KT R := fun fr H => opn 13 fr (fun s0 s1 s2 s3 s8 s9 s10 s11 s13 s15 s20 s36 s41 => 
(k [s0, s1, s2, s3, (.sl [] .nil), s9, s10, s11, s13, s15, s20, s36, s41] H : R))
noncomputable def r85_1 (k : KT R) : KT R := fun fr H => opn 13 fr (fun s0 s1 s2 s3 s8 s9 s10 s11 s13 s15 s20 s36 s41 => 
(qEql X 3 s3 (.int .i64 0) fun v13 =>
k [s0, s1, s2, s3, s8, s9, s10, s11, v13, s15, s20, s36, s41] H : R))
noncomputable def r85_0 (k : KT R) : KT R := fun fr H => opn 13 fr (fun s0 s1 s2 s3 s8 s9 s10 s11 s13 s15 s20 s36 s41 => 
(k [s0, s1, s2, s3, (.sl [] .nil), s9, s10, s11, s13, s15, s20, s36, s41] H : R))
noncomputable def c85 (C : CallF) (l0 : List AV) (H : AH) (k : AV → AH → R) : R := opn 4 l0 (fun x0 x1 x2 x3 => (qFn (fun kr => (r85_0 (r85_1 (qCd (sel 8) (fun _ => (r85_2 kr)) (fun k8 => k8) (r85_3 (qCd (sel 9) (fun _ => (r85_4 C kr)) (fun k7 => k7) (r85_5 (qCd (sel 10) (fun k6 => (r85_6 C k6)) (fun k6 => k6) (r85_7 (r85_8 (r85_9 (r85_10 (qBl (fun k1 => (qLoop (l85_5 C k1))) (r85_17 (r85_18 kr)))))))))))))))
(fun fr H => k (sel 4 fr) H) [x0, x1, x2, x3, Aes.undef, Aes.undef, Aes.undef, Aes.undef, Aes.undef, Aes.undef, Aes.undef, Aes.undef, Aes.undef] H : R))
/- strings.Replace -/
noncomputable def r86_29 (C : CallF) (k : KT R) : KT R := fun fr H => opn 21 fr (fun s0 s1 s2 s3 s8 s9 s10 s11 s12 s14 s15 s22 s28 s36 s51 s52 s53 s54 s77 s78 s79 => 
(qRes (C 48 [s10] H) fun v103 H =>
k [s0, s1, s2, s3, v103, s9, s10, s11, s12, s14, s15, s22, s28, s36, s51, s52, s53, s54, s77, s78, s79] H : R))
noncomputable def r86_28 (C : CallF) (k : KT R) : KT R := fun fr H => opn 21 fr (fun s0 s1 s2 s3 s8 s9 s10 s11 s12 s14 s15 s22 s28 s36 s51 s52 s53 s54 s77 s78 s79 => 
(qSlc Tryd.t9.desc 0 s0 (some s11) none none fun v101 =>
qRes (C 53 [s10, v101] H) fun v102 H =>
k [s0, s1, s2, s3, s8, s9, s10, s11, s12, s14, s15, s22, s28, s36, s51, s52, s53, s54, s77, s78, s79] H : R))
noncomputable def r86_18 (k : KT R) : KT R := fun fr H => opn 21 fr (fun s0 s1 s2 s3 s8 s9 s10 s11 s12 s14 s15 s22 s28 s36 s51 s52 s53 s54 s77 s78 s79 => 
(qAdd X 3 s53 (.int .i64 1) fun v73 =>
k [s0, s1, s2, s3, s8, s9, s10, s11, s12, s14, s15, s22, s28, s36, s51, s52, v73, s54, s77, s78, s79] H : R))
noncomputable def r86_17 (k : KT R) : KT R := fun fr H => opn 21 fr (fun s0 s1 s2 s3 s8 s9 s10 s11 s12 s14 s15 s22 s28 s36 s51 s52 s53 s54 s77 s78 s79 => 
(qLenS s1 fun v71 =>
qAdd X 3 s12 v71 fun v72 =>
k [s0, s1, s2, s3, s8, s9, s10, v72, s12, s14, s15, s22, s28, s36, s51, s52, s53, s54, s77, s78, s79] H : R))
noncomputable def r86_16 (C : CallF) (k : KT R) : KT R := fun fr H => opn 21 fr (fun s0 s1 s2 s3 s8 s9 s10 s11 s12 s14 s15 s22 s28 s36 s51 s52 s53 s54 s77 s78 s79 => 
(qRes (C 53 [s10, s2] H) fun v68 H =>
k [s0, s1, s2, s3, s8, s9, s10, s11, s12, s14, s15, s22, s28, s36, s51, s52, s53, s54, s77, s78, s79] H : R))
noncomputable def r86_15 (C : CallF) (k : KT R) : KT R := fun fr H => opn 21 fr (fun s0 s1 s2 s3 s8 s9 s10 s11 s12 s14 s15 s22 s28 s36 s51 s52 s53 s54 s77 s78 s79 => 
(qSlc Tryd.t9.desc 0 s0 (some s11) (some s12) none fun v65 =>
qRes (C 53 [s10, v65] H) fun v66 H =>
k [s0, s1, s2, s3, s8, s9, s10, s11, s12, s14, s15, s22, s28, s36, s51, s52, s53, s54, s77, s78, s79] H : R))
noncomputable def r86_14 (C : CallF) (k : KT R) : KT R := fun fr H => opn 21 fr (fun s0 s1 s2 s3 s8 s9 s10 s11 s12 s14 s15 s22 s28 s36 s51 s52 s53 s54 s77 s78 s79 => 
(qSlc Tryd.t9.desc 0 s0 (some s11) none none fun v58 =>
qRes (C 99 [v58, s1] H) fun v60 H =>
qAdd X 3 s11 v60 fun v61 =>
k [s0, s1, s2, s3, s8, s9, s10, s11, v61, s14, s15, s22, s28, s36, s51, s52, s53, s54, s77, s78, s79] H : R))
noncomputable def r86_13 (k : KT R) : KT R := fun fr H => opn 21 fr (fun s0 s1 s2 s3 s8 s9 s10 s11 s12 s14 s15 s22 s28 s36 s51 s52 s53 s54 s77 s78 s79 => 
(qLss X 3 s53 s52 fun v54 =>
k [s0, s1, s2, s3, s8, s9, s10, s11, s12, s14, s15, s22, s28, s36, s51, s52, s53, v54, s77, s78, s79] H : R))
noncomputable def l86_5 (C : CallF) (k2 : KT R) : KT R → KT R := fun k3 => (r86_13 (qCd (sel 17) (fun k5 => k5) (fun _ => k2) (qBl (fun k4 => (r86_14 C (r86_15 C (r86_16 C (r86_17 k4))))) (r86_18 k3))))
noncomputable def r86_12 (k : KT R) : KT R := fun fr H => opn 21 fr (fun s0 s1 s2 s3 s8 s9 s10 s11 s12 s14 s15 s22 s28 s36 s51 s52 s53 s54 s77 s78 s79 => 
(k [s0, s1, s2, s3, s8, s9, s10, s11, s12, s14, s15, s22, s28, s36, s51, s3, (.int .i64 0), s54, s77, s78, s79] H : R))
noncomputable def r86_27 (k : KT R) : KT R := fun fr H => opn 21 fr (fun s0 s1 s2 s3 s8 s9 s10 s11 s12 s14 s15 s22 s28 s36 s51 s52 s53 s54 s77 s78 s79 => 
(qAdd X 3 s78 (.int .i64 1) fun v98 =>
k [s0, s1, s2, s3, s8, s9, s10, s11, s12, s14, s15, s22, s28, s36, s51, s52, s53, s54, s77, v98, s79] H : R))
noncomputable def r86_26 (k : KT R) : KT R := fun fr H => opn 21 fr (fun s0 s1 s2 s3 s8 s9 s10 s11 s12 s14 s15 s22 s28 s36 s51 s52 s53 s54 s77 s78 s79 => 
(k [s0, s1, s2, s3, s8, s9, s10, s15, s12, s14, s15, s22, s28, s36, s51, s52, s53, s54, s77, s78, s79] H : R))
noncomputable def r86_25 (C : CallF) (k : KT R) : KT R := fun fr H => opn 21 fr (fun s0 s1 s2 s3 s8 s9 s10 s11 s12 s14 s15 s22 s28 s36 s51 s52 s53 s54 s77 s78 s79 => 
(qRes (C 53 [s10, s2] H) fun v96 H =>
k [s0, s1, s2, s3, s8, s9, s10, s11, s12, s14, s15, s22, s28, s36, s51, s52, s53, s54, s77, s78, s79] H : R))
noncomputable def r86_24 (C : CallF) (k : KT R) : KT R := fun fr H => opn 21 fr (fun s0 s1 s2 s3 s8 s9 s10 s11 s12 s14 s15 s22 s28 s36 s51 s52 s53 s54 s77 s78 s79 => 
(qSlc Tryd.t9.desc 0 s0 (some s11) (some s15) none fun v93 =>
qRes (C 53 [s10, v93] H) fun v94 H =>
k [s0, s1, s2, s3, s8, s9, s10, s11, s12, s14, s15, s22, s28, s36, s51, s52, s53, s54, s77, s78, s79] H : R))
noncomputable def r86_23 (k : KT R) : KT R := fun fr H => opn 21 fr (fun s0 s1 s2 s3 s8 s9 s10 s11 s12 s14 s15 s22 s28 s36 s51 s52 s53 s54 s77 s78 s79 => 
(qAdd X 3 s11 s14 fun v89 =>
k [s0, s1, s2, s3, s8, s9, s10, s11, s12, s14, v89, s22, s28, s36, s51, s52, s53, s54, s77, s78, s79] H : R))
noncomputable def r86_22 (C : CallF) (k : KT R) : KT R := fun fr H => opn 21 fr (fun s0 s1 s2 s3 s8 s9 s10 s11 s12 s14 s15 s22 s28 s36 s51 s52 s53 s54 s77 s78 s79 => 
(qSlc Tryd.t9.desc 0 s0 (some s11) none none fun v83 =>
qRes (C 100 [v83] H) fun v84 H =>
qExt v84 0 fun v85 =>
qExt v84 1 fun v86 =>
k [s0, s1, s2, s3, s8, s9, s10, s11, s12, v86, s15, s22, s28, s36, s51, s52, s53, s54, s77, s78, s79] H : R))
noncomputable def r86_21 (k : KT R) : KT R := fun fr H => opn 21 fr (fun s0 s1 s2 s3 s8 s9 s10 s11 s12 s14 s15 s22 s28 s36 s51 s52 s53 s54 s77 s78 s79 => 
(qLss X 3 s78 s77 fun v79 =>
k [s0, s1, s2, s3, s8, s9, s10, s11, s12, s14, s15, s22, s28, s36, s51, s52, s53, s54, s77, s78, v79] H : R))
noncomputable def l86_9 (C : CallF) (k6 : KT R) : KT R → KT R := fun k7 => (r86_21 (qCd (sel 20) (fun k9 => k9) (fun _ => k6) (qBl (fun k8 => (r86_22 C (r86_23 (r86_24 C (r86_25 C (r86_26 k8)))))) (r86_27 k7))))
noncomputable def r86_20 (k : KT R) : KT R := fun fr H => opn 21 fr (fun s0 s1 s2 s3 s8 s9 s10 s11 s12 s14 s15 s22 s28 s36 s51 s52 s53 s54 s77 s78 s79 => 
(qSub X 3 s3 (.int .i64 1) fun v77 =>
k [s0, s1, s2, s3, s8, s9, s10, s11, s12, s14, s15, s22, s28, s36, s51, s52, s53, s54, v77, (.int .i64 0), s79] H : R))
noncomputable def r86_19 (C : CallF) (k : KT R) : KT R := fun fr H => opn 21 fr (fun s0 s1 s2 s3 s8 s9 s10 s11 s12 s14 s15 s22 s28 s36 s51 s52 s53 s54 s77 s78 s79 => 
(qRes (C 53 [s10, s2] H) fun v75 H =>
k [s0, s1, s2, s3, s8, s9, s10, s11, s12, s14, s15, s22, s28, s36, s51, s52, s53, s54, s77, s78, s79] H : R))
noncomputable def r86_11 (k : KT R) : KT R := fun fr H => opn 21 fr (fun s0 s1 s2 s3 s8 s9 s10 s11 s12 s14 s15 s22 s28 s36 s51 s52 s53 s54 s77 s78 s79 => 
(qLenS s1 fun v50 =>
qGtr X 3 v50 (.int .i64 0) fun v51 =>
k [s0, s1, s2, s3, s8, s9, s10, s11, s12, s14, s15, s22, s28, s36, v51, s52, s53, s54, s77, s78, s79] H : R))
noncomputable def r86_10 (k : KT R) : KT R := fun fr H => opn 21 fr (fun s0 s1 s2 s3 s8 s9 s10 s11 s12 s14 s15 s22 s28 s36 s51 s52 s53 s54 s77 s78 s79 => 
(k [s0, s1, s2, s3, s8, s9, s10, (.int .i64 0), s12, s14, s15, s22, s28, s36, s51, s52, s53, s54, s77, s78, s79] H : R))
noncomputable def r86_9 (C : CallF) (k : KT R) : KT R := fun fr H => opn 21 fr (fun s0 s1 s2 s3 s8 s9 s10 s11 s12 s14 s15 s22 s28 s36 s51 s52 s53 s54 s77 s78 s79 => 
(qLenS s0 fun v39 =>
qLenS s2 fun v42 =>
qLenS s1 fun v44 =>
qSub X 3 v42 v44 fun v45 =>
qMul X 3 s3 v45 fun v46 =>
qAdd X 3 v39 v46 fun v47 =>
qRes (C 87 [s10, v47] H) fun v48 H =>
k [s0, s1, s2, s3, s8, s9, s10, s11, s12, s14, s15, s22, s28, s36, s51, s52, s53, s54, s77, s78, s79] H : R))
noncomputable def r86_8 (k : KT R) : KT R := fun fr H => opn 21 fr (fun s0 s1 s2 s3 s8 s9 s10 s11 s12 s14 s15 s22 s28 s36 s51 s52 s53 s54 s77 s78 s79 => 
(qNew (.obj 63 0 z63) .ptr H fun v10 H =>
k [s0, s1, s2, s3, s8, s9, v10, s11, s12, s14, s15, s22, s28, s36, s51, s52, s53, s54, s77, s78, s79] H : R))
noncomputable def r86_5 (k : KT R) : KT R := fun fr H => opn 21 fr (fun s0 s1 s2 s3 s8 s9 s10 s11 s12 s14 s15 s22 s28 s36 s51 s52 s53 s54 s77 s78 s79 => 
(k [s0, s1, s2, s3, s0, s9, s10, s11, s12, s14, s15, s22, s28, s36, s51, s52, s53, s54, s77, s78, s79] H : R))
noncomputable def r86_7 (k : KT R) : KT R := fun fr H => opn 21 fr (fun s0 s1 s2 s3 s8 s9 s10 s11 s12 s14 s15 s22 s28 s36 s51 s52 s53 s54 s77 s78 s79 => 
(k [s0, s1, s2, s9, s8, s9, s10, s11, s12, s14, s15, s22, s28, s36, s51, s52, s53, s54, s77, s78, s79] H : R))
noncomputable def r86_6 (k : KT R) : KT R := fun fr H => opn 21 fr (fun s0 s1 s2 s3 s8 s9 s10 s11 s12 s14 s15 s22 s28 s36 s51 s52 s53 s54 s77 s78 s79 => 
(qLss X 3 s3 (.int .i64 0) fun v31 =>
qG v31 false (fun k => k s9 H) H fun v33 H =>
qG v31 false (fun k => k s3 H) H fun v34 H =>
qG v31 false (fun k => qLss X 3 v33 v34 fun v => k v H) H fun v35 H =>
qPick v31 (.bool true) v35 fun v36 =>
k [s0, s1, s2, s3, s8, s9, s10, s11, s12, s14, s15, s22, s28, v36, s51, s52, s53, s54, s77, s78, s79] H : R))
noncomputable def r86_4 (k : KT R) : KT R := fun fr H => opn 21 fr (fun s0 s1 s2 s3 s8 s9 s10 s11 s12 s14 s15 s22 s28 s36 s51 s52 s53 s54 s77 s78 s79 => 
(qEql X 3 s9 (.int .i64 0) fun v28 =>
k [s0, s1, s2, s3, s8, s9, s10, s11, s12, s14, s15, s22, v28, s36, s51, s52, s53, s54, s77, s78, s79] H : R))
noncomputable def r86_3 (C : CallF) (k : KT R) : KT R := fun fr H => opn 21 fr (fun s0 s1 s2 s3 s8 s9 s10 s11 s12 s14 s15 s22 s28 s36 s51 s52 s53 s54 s77 s78 s79 => 
(qRes (C 98 [s0, s1] H) fun v26 H =>
k [s0, s1, s2, s3, s8, v26, s10, s11, s12, s14, s15, s22, s28, s36, s51, s52, s53, s54, s77, s78, s79] H : R))
noncomputable def r86_2 (k : KT R) : KT R := fun fr H => opn 21 fr (fun s0 s1 s2 s3 s8 s9 s10 s11 s12 s14 s15 s22 s28 s36 s51 s52 s53 s54 s77 s78 s79 => 
(k [s0, s1, s2, s3, s0, s9, s10, s11, s12, s14, s15, s22, s28, s36, s51, s52, s53, s54, s77, s78, s79] H : R))
noncomputable def r86_1 (k : KT R) : KT R := fun fr H => opn 21 fr (fun s0 s1 s2 s3 s8 s9 s10 s11 s12 s14 s15 s22 s28 s36 s51 s52 s53 s54 s77 s78 s79 => 
(qEql X 9 s1 s2 fun v18 =>
qG v18 false (fun k => k s3 H) H fun v20 H =>
qG v18 false (fun k => qEql X 3 v20 (.int .i64 0) fun v => k v H) H fun v21 H =>
qPick v18 (.bool true) v21 fun v22 =>
k [s0, s1, s2, s3, s8, s9, s10, s11, s12, s14, s15, v22, s28, s36, s51, s52, s53, s54, s77, s78, s79] H : R))
noncomputable def r86_0 (k : KT R) : KT R := fun fr H => opn 21 fr (fun s0 s1 s2 s3 s8 s9 s10 s11 s12 s14 s15 s22 s28 s36 s51 s52 s53 s54 s77 s78 s79 => 
(k [s0, s1, s2, s3, (.str []), s9, s10, s11, s12, s14, s15, s22, s28, s36, s51, s52, s53, s54, s77, s78, s79] H : R))
noncomputable def c86 (C : CallF) (l0 : List AV) (H : AH) (k : AV → AH → R) : R := opn 4 l0 (fun x0 x1 x2 x3 => (qFn (fun kr => (r86_0 (r86_1 (qCd (sel 11) (fun _ => (r86_2 kr)) (fun k12 => k12) (r86_3 C (r86_4 (qCd (sel 12) (fun _ => (r86_5 kr)) (fun k10 => (r86_6 (qCd (sel 13) (fun k11 => (r86_7 k11)) (fun k11 => k11) k10))) (r86_8 (r86_9 C (r86_10 (r86_11 (qCd (sel 14) (fun k1 => (r86_12 (qBl (fun k2 => (qLoop (l86_5 C k2))) k1))) (fun k1 => (r86_19 C (r86_20 (qBl (fun k6 => (qLoop (l86_9 C k6))) k1)))) (r86_28 C (r86_29 C kr))))))))))))))
(fun fr H => k (sel 4 fr) H) [x0, x1, x2, x3, Aes.undef, Aes.undef, Aes.undef, Aes.undef, Aes.undef, Aes.undef, Aes.undef, Aes.undef, Aes.undef, Aes.undef, Aes.undef, Aes.undef, Aes.undef, Aes.undef, Aes.undef, Aes.undef, Aes.undef] H : R))
/- internal/stringslite.HasPrefix -/
noncomputable def r88_1 (k : KT R) : KT R := fun fr H => opn 3 fr (fun s0 s1 s4 => 
(qLenS s0 fun v6 =>
qLenS s1 fun v8 =>
qGeq X 3 v6 v8 fun v9 =>
qG v9 true (fun k => k s0 H) H fun v11 H =>
qG v9 true (fun k => k s1 H) H fun v12 H =>
qG v9 true (fun k => qLenS v12 fun v => k v H) H fun v13 H =>
qG v9 true (fun k => qSlc Tryd.t9.desc 0 v11 none (some v13) none fun v => k v H) H fun v14 H =>
qG v9 true (fun k => k s1 H) H fun v15 H =>
qG v9 true (fun k => qEql X 9 v14 v15 fun v => k v H) H fun v16 H =>
qPick v9 v16 (.bool false) fun v17 =>
k [s0, s1, v17] H : R))
noncomputable def r88_0 (k : KT R) : KT R := fun fr H => opn 3 fr (fun s0 s1 s4 => 
(k [s0, s1, (.bool false)] H : R))
noncomputable def c88 (C : CallF) (l0 : List AV) (H : AH) (k : AV → AH → R) : R := opn 2 l0 (fun x0 x1 => (qFn (fun kr => (r88_0 (r88_1 kr)))
(fun fr H => k (sel 2 fr) H) [x0, x1, Aes.undef] H : R))
/- strings.trimLeftByte -/
noncomputable def r89_3 (k : KT R) : KT R := fun fr H => opn 4 fr (fun s0 s1 s4 s13 => 
(k [s0, s1, s0, s13] H : R))
noncomputable def r89_2 (k : KT R) : KT R := fun fr H => opn 4 fr (fun s0 s1 s4 s13 => 
(qSlc Tryd.t9.desc 0 s0 (some (.int .i64 1)) none none fun v15 =>
k [v15, s1, s4, s13] H : R))
noncomputable def r89_1 (k : KT R) : KT R := fun fr H => opn 4 fr (fun s0 s1 s4 s13 => 
(qLenS s0 fun v6 =>
qGtr X 3 v6 (.int .i64 0) fun v7 =>
qG v7 true (fun k => k s0 H) H fun v9 H =>
qG v7 true (fun k => qIx v9 (.int .i64 0) fun v => k v H) H fun v10 H =>
qG v7 true (fun k => k s1 H) H fun v11 H =>
qG v7 true (fun k => qEql X 5 v10 v11 fun v => k v H) H fun v12 H =>
qPick v7 v12 (.bool false) fun v13 =>
k [s0, s1, s4, v13] H : R))
noncomputable def l89_4 (k1 : KT R) : KT R → KT R := fun k2 => (r89_1 (qCd (sel 3) (fun k4 => k4) (fun _ => k1) (qBl (fun k3 => (r89_2 k3)) k2)))
noncomputable def r89_0 (k : KT R) : KT R := fun fr H => opn 4 fr (fun s0 s1 s4 s13 => 
(k [s0, s1, (.str []), s13] H : R))
noncomputable def c89 (C : CallF) (l0 : List AV) (H : AH) (k : AV → AH → R) : R := opn 2 l0 (fun x0 x1 => (qFn (fun kr => (r89_0 (qBl (fun k1 => (qLoop (l89_4 k1))) (r89_3 kr))))
(fun fr H => k (sel 2 fr) H) [x0, x1, Aes.undef, Aes.undef] H : R))
/- strings.makeASCIISet -/
noncomputable def r90_8 (k : KT R) : KT R := fun fr H => opn 7 fr (fun s0 s2 s3 s4 s5 s9 s16 => 
(qLdA 256 s2 H fun v20 =>
qSt 256 s2 v20 H fun _ H =>
k [s0, s2, (.bool true), s4, s5, s9, s16] H : R))
noncomputable def r90_3 (k : KT R) : KT R := fun fr H => opn 7 fr (fun s0 s2 s3 s4 s5 s9 s16 => 
(qAdd X 3 s4 (.int .i64 1) fun v11 =>
k [s0, s2, s3, v11, s5, s9, s16] H : R))
noncomputable def r90_7 (k : KT R) : KT R := fun fr H => opn 7 fr (fun s0 s2 s3 s4 s5 s9 s16 => 
(qIaA 256 1 s2 s5 fun v19 =>
qSt 1 v19 (.bool true) H fun _ H =>
k [s0, s2, s3, s4, s5, s9, s16] H : R))
noncomputable def r90_6 (k : KT R) : KT R := fun fr H => opn 7 fr (fun s0 s2 s3 s4 s5 s9 s16 => 
(qLdA 256 s2 H fun v17 =>
qSt 256 s2 v17 H fun _ H =>
k [s0, s2, (.bool false), s4, s5, s9, s16] H : R))
noncomputable def r90_5 (k : KT R) : KT R := fun fr H => opn 7 fr (fun s0 s2 s3 s4 s5 s9 s16 => 
(qGeq X 5 s5 (.int .u8 128) fun v16 =>
k [s0, s2, s3, s4, s5, s9, v16] H : R))
noncomputable def r90_4 (k : KT R) : KT R := fun fr H => opn 7 fr (fun s0 s2 s3 s4 s5 s9 s16 => 
(qIx s0 s4 fun v14 =>
k [s0, s2, s3, s4, v14, s9, s16] H : R))
noncomputable def r90_2 (k : KT R) : KT R := fun fr H => opn 7 fr (fun s0 s2 s3 s4 s5 s9 s16 => 
(qLenS s0 fun v8 =>
qLss X 3 s4 v8 fun v9 =>
k [s0, s2, s3, s4, s5, v9, s16] H : R))
noncomputable def l90_5 (k1 : KT R) (kr : KT R) : KT R → KT R := fun k2 => (r90_2 (qCd (sel 5) (fun k5 => k5) (fun _ => k1) (qBl (fun k3 => (r90_4 (r90_5 (qCd (sel 6) (fun _ => (r90_6 kr)) (fun k4 => k4) (r90_7 k3))))) (r90_3 k2))))
noncomputable def r90_1 (k : KT R) : KT R := fun fr H => opn 7 fr (fun s0 s2 s3 s4 s5 s9 s16 => 
(k [s0, s2, s3, (.int .i64 0), s5, s9, s16] H : R))
noncomputable def r90_0 (k : KT R) : KT R := fun fr H => opn 7 fr (fun s0 s2 s3 s4 s5 s9 s16 => 
(qNew (.cells z106) .ptr H fun v2 H =>
k [s0, v2, (.bool false), s4, s5, s9, s16] H : R))
noncomputable def c90 (C : CallF) (l0 : List AV) (H : AH) (k : AV → AH → R) : R := opn 1 l0 (fun x0 => (qFn (fun kr => (r90_0 (r90_1 (qBl (fun k1 => (qLoop (l90_5 k1 kr))) (r90_8 kr)))))
(fun fr H => qPtr (sel 1 fr) (qLdA 256 (sel 1 fr) H fun w0 => k (.tup [w0, (sel 2 fr)]) H)) [x0, Aes.undef, Aes.undef, Aes.undef, Aes.undef, Aes.undef, Aes.undef] H : R))
/- strings.trimLeftASCII -/
noncomputable def r91_4 (k : KT R) : KT R := fun fr H => opn 5 fr (fun s0 s1 s4 s7 s12 => 
(k [s0, s1, s0, s7, s12] H : R))
noncomputable def r91_3 (k : KT R) : KT R := fun fr H => opn 5 fr (fun s0 s1 s4 s7 s12 => 
(qSlc Tryd.t9.desc 0 s0 (some (.int .i64 1)) none none fun v14 =>
k [v14, s1, s4, s7, s12] H : R))
noncomputable def r91_2 (C : CallF) (k : KT R) : KT R := fun fr H => opn 5 fr (fun s0 s1 s4 s7 s12 => 
(qIx s0 (.int .i64 0) fun v10 =>
qRes (C 102 [s1, v10] H) fun v11 H =>
qNot v11 fun v12 =>
k [s0, s1, s4, s7, v12] H : R))
noncomputable def r91_1 (k : KT R) : KT R := fun fr H => opn 5 fr (fun s0 s1 s4 s7 s12 => 
(qLenS s0 fun v6 =>
qGtr X 3 v6 (.int .i64 0) fun v7 =>
k [s0, s1, s4, v7, s12] H : R))
noncomputable def l91_5 (C : CallF) (k1 : KT R) : KT R → KT R := fun k2 => (r91_1 (qCd (sel 3) (fun k5 => k5) (fun _ => k1) (qBl (fun k3 => (r91_2 C (qCd (sel 4) (fun _ => k1) (fun k4 => k4) (r91_3 k3)))) k2)))
noncomputable def r91_0 (k : KT R) : KT R := fun fr H => opn 5 fr (fun s0 s1 s4 s7 s12 => 
(k [s0, s1, (.str []), s7, s12] H : R))
noncomputable def c91 (C : CallF) (l0 : List AV) (H : AH) (k : AV → AH → R) : R := opn 2 l0 (fun x0 x1 => (qFn (fun kr => (r91_0 (qBl (fun k1 => (qLoop (l91_5 C k1))) (r91_4 kr))))
(fun fr H => k (sel 2 fr) H) [x0, x1, Aes.undef, Aes.undef, Aes.undef] H : R))
/- strings.trimLeftUnicode -/
noncomputable def r92_5 (k : KT R) : KT R := fun fr H => opn 7 fr (fun s0 s1 s4 s5 s6 s9 s18 => 
(k [s0, s1, s0, s5, s6, s9, s18] H : R))
noncomputable def r92_4 (k : KT R) : KT R := fun fr H => opn 7 fr (fun s0 s1 s4 s5 s6 s9 s18 => 
(qSlc Tryd.t9.desc 0 s0 (some s6) none none fun v21 =>
k [v21, s1, s4, s5, s6, s9, s18] H : R))
noncomputable def r92_3 (C : CallF) (k : KT R) : KT R := fun fr H => opn 7 fr (fun s0 s1 s4 s5 s6 s9 s18 => 
(qRes (C 103 [s1, s5] H) fun v17 H =>
qNot v17 fun v18 =>
k [s0, s1, s4, s5, s6, s9, v18] H : R))
noncomputable def r92_2 (C : CallF) (k : KT R) : KT R := fun fr H => opn 7 fr (fun s0 s1 s4 s5 s6 s9 s18 => 
(qRes (C 100 [s0] H) fun v12 H =>
qExt v12 0 fun v13 =>
qExt v12 1 fun v14 =>
k [s0, s1, s4, v13, v14, s9, s18] H : R))
noncomputable def r92_1 (k : KT R) : KT R := fun fr H => opn 7 fr (fun s0 s1 s4 s5 s6 s9 s18 => 
(qLenS s0 fun v8 =>
qGtr X 3 v8 (.int .i64 0) fun v9 =>
k [s0, s1, s4, s5, s6, v9, s18] H : R))
noncomputable def l92_5 (C : CallF) (k1 : KT R) : KT R → KT R := fun k2 => (r92_1 (qCd (sel 5) (fun k5 => k5) (fun _ => k1) (qBl (fun k3 => (r92_2 C (r92_3 C (qCd (sel 6) (fun _ => k1) (fun k4 => k4) (r92_4 k3))))) k2)))
noncomputable def r92_0 (k : KT R) : KT R := fun fr H => opn 7 fr (fun s0 s1 s4 s5 s6 s9 s18 => 
(k [s0, s1, (.str []), s5, s6, s9, s18] H : R))
noncomputable def c92 (C : CallF) (l0 : List AV) (H : AH) (k : AV → AH → R) : R := opn 2 l0 (fun x0 x1 => (qFn (fun kr => (r92_0 (qBl (fun k1 => (qLoop (l92_5 C k1))) (r92_5 kr))))
(fun fr H => k (sel 2 fr) H) [x0, x1, Aes.undef, Aes.undef, Aes.undef, Aes.undef, Aes.undef] H : R))
/- unicode/utf8.appendRuneNonASCII -/
noncomputable def r95_4 (k : KT R) : KT R := fun fr H => opn 7 fr (fun s0 s1 s4 s5 s11 s25 s50 => 
(qO (binop X .shr 21 s1 (.int .u64 6)) fun v16 =>
qConvI .u8 v16 fun v17 =>
qO (binop X .or 5 (.int .u8 192) v17) fun v18 =>
qConvI .u8 s1 fun v20 =>
qO (binop X .and 5 v20 (.int .u8 63)) fun v21 =>
qO (binop X .or 5 (.int .u8 128) v21) fun v22 =>
qRows z5 2 [(0, v18), (1, v22)] fun v23 =>
qApp 1 1 s0 v23 true (some 5) H fun v24 H =>
k [s0, s1, v24, s5, s11, s25, s50] H : R))
noncomputable def r95_7 (k : KT R) : KT R := fun fr H => opn 7 fr (fun s0 s1 s4 s5 s11 s25 s50 => 
(qO (binop X .shr 21 s1 (.int .u64 12)) fun v36 =>
qConvI .u8 v36 fun v37 =>
qO (binop X .or 5 (.int .u8 224) v37) fun v38 =>
qO (binop X .shr 21 s1 (.int .u64 6)) fun v40 =>
qConvI .u8 v40 fun v41 =>
qO (binop X .and 5 v41 (.int .u8 63)) fun v42 =>
qO (binop X .or 5 (.int .u8 128) v42) fun v43 =>
qConvI .u8 s1 fun v45 =>
qO (binop X .and 5 v45 (.int .u8 63)) fun v46 =>
qO (binop X .or 5 (.int .u8 128) v46) fun v47 =>
qRows z5 3 [(0, v38), (1, v43), (2, v47)] fun v48 =>
qApp 1 1 s0 v48 true (some 5) H fun v49 H =>
k [s0, s1, v49, s5, s11, s25, s50] H : R))
noncomputable def r95_9 (k : KT R) : KT R := fun fr H => opn 7 fr (fun s0 s1 s4 s5 s11 s25 s50 => 
(qO (binop X .shr 21 s1 (.int .u64 18)) fun v59 =>
qConvI .u8 v59 fun v60 =>
qO (binop X .or 5 (.int .u8 240) v60) fun v61 =>
qO (binop X .shr 21 s1 (.int .u64 12)) fun v63 =>
qConvI .u8 v63 fun v64 =>
qO (binop X .and 5 v64 (.int .u8 63)) fun v65 =>
qO (binop X .or 5 (.int .u8 128) v65) fun v66 =>
qO (binop X .shr 21 s1 (.int .u64 6)) fun v68 =>
qConvI .u8 v68 fun v69 =>
qO (binop X .and 5 v69 (.int .u8 63)) fun v70 =>
qO (binop X .or 5 (.int .u8 128) v70) fun v71 =>
qConvI .u8 s1 fun v73 =>
qO (binop X .and 5 v73 (.int .u8 63)) fun v74 =>
qO (binop X .or 5 (.int .u8 128) v74) fun v75 =>
qRows z5 4 [(0, v61), (1, v66), (2, v71), (3, v75)] fun v76 =>
qApp 1 1 s0 v76 true (some 5) H fun v77 H =>
k [s0, s1, v77, s5, s11, s25, s50] H : R))
noncomputable def r95_2 (k : KT R) : KT R := fun fr H => opn 7 fr (fun s0 s1 s4 s5 s11 s25 s50 => 
(qRows z5 3 [(0, (.int .u8 239)), (1, (.int .u8 191)), (2, (.int .u8 189))] fun v9 =>
qApp 1 1 s0 v9 true (some 5) H fun v10 H =>
k [s0, s1, v10, s5, s11, s25, s50] H : R))
noncomputable def r95_8 (k : KT R) : KT R := fun fr H => opn 7 fr (fun s0 s1 s4 s5 s11 s25 s50 => 
(qGtr X 114 s5 (.int .u32 65535) fun v52 =>
qG v52 true (fun k => k s5 H) H fun v54 H =>
qG v52 true (fun k => qLeq X 114 v54 (.int .u32 1114111) fun v => k v H) H fun v55 H =>
qPick v52 v55 (.bool false) fun v56 =>
k [s0, s1, s4, s5, s11, s25, v56] H : R))
noncomputable def r95_6 (k : KT R) : KT R := fun fr H => opn 7 fr (fun s0 s1 s4 s5 s11 s25 s50 => 
(qLss X 114 (.int .u32 57343) s5 fun v29 =>
qG v29 true (fun k => k s5 H) H fun v31 H =>
qG v29 true (fun k => qLeq X 114 v31 (.int .u32 65535) fun v => k v H) H fun v32 H =>
qPick v29 v32 (.bool false) fun v33 =>
k [s0, s1, s4, s5, s11, v33, s50] H : R))
noncomputable def r95_5 (k : KT R) : KT R := fun fr H => opn 7 fr (fun s0 s1 s4 s5 s11 s25 s50 => 
(qLss X 114 s5 (.int .u32 55296) fun v27 =>
k [s0, s1, s4, s5, s11, v27, s50] H : R))
noncomputable def r95_3 (k : KT R) : KT R := fun fr H => opn 7 fr (fun s0 s1 s4 s5 s11 s25 s50 => 
(qLeq X 114 s5 (.int .u32 2047) fun v13 =>
k [s0, s1, s4, s5, v13, s25, s50] H : R))
noncomputable def r95_1 (k : KT R) : KT R := fun fr H => opn 7 fr (fun s0 s1 s4 s5 s11 s25 s50 => 
(qConvI .u32 s1 fun v7 =>
k [s0, s1, s4, v7, s11, s25, s50] H : R))
noncomputable def r95_0 (k : KT R) : KT R := fun fr H => opn 7 fr (fun s0 s1 s4 s5 s11 s25 s50 => 
(k [s0, s1, (.sl [] .nil), s5, s11, s25, s50] H : R))
noncomputable def c95 (C : CallF) (l0 : List AV) (H : AH) (k : AV → AH → R) : R := opn 2 l0 (fun x0 x1 => (qFn (fun kr => (r95_0 (r95_1 (qBl (fun k1 => (r95_3 (qCd (sel 4) (fun _ => (r95_4 kr)) (fun k2 => (r95_5 (qCd (sel 5) (fun k5 => k5) (fun k5 => (r95_6 k5)) (qCd (sel 5) (fun _ => (r95_7 kr)) (fun k3 => (r95_8 (qCd (sel 6) (fun _ => (r95_9 kr)) (fun _ => (r95_2 kr)) k3))) k2)))) k1))) kr))))
(fun fr H => k (sel 2 fr) H) [x0, x1, Aes.undef, Aes.undef, Aes.undef, Aes.undef, Aes.undef] H : R))
/- strings.ToLower -/
noncomputable def r96_28 (C : CallF) (k : KT R) : KT R := fun fr H => opn 18 fr (fun s0 s2 s3 s4 s5 s6 s7 s8 s9 s10 s14 s21 s31 s33 s41 s52 s57 s70 => 
(qRes (C 104 [(.fn (.func 105) [] []), s0] H) fun v77 H =>
k [s0, v77, s3, s4, s5, s6, s7, s8, s9, s10, s14, s21, s31, s33, s41, s52, s57, s70] H : R))
noncomputable def r96_27 (C : CallF) (k : KT R) : KT R := fun fr H => opn 18 fr (fun s0 s2 s3 s4 s5 s6 s7 s8 s9 s10 s14 s21 s31 s33 s41 s52 s57 s70 => 
(qRes (C 48 [s7] H) fun v75 H =>
k [s0, v75, s3, s4, s5, s6, s7, s8, s9, s10, s14, s21, s31, s33, s41, s52, s57, s70] H : R))
noncomputable def r96_26 (C : CallF) (k : KT R) : KT R := fun fr H => opn 18 fr (fun s0 s2 s3 s4 s5 s6 s7 s8 s9 s10 s14 s21 s31 s33 s41 s52 s57 s70 => 
(qSlc Tryd.t9.desc 0 s0 (some s8) none none fun v73 =>
qRes (C 53 [s7, v73] H) fun v74 H =>
k [s0, s2, s3, s4, s5, s6, s7, s8, s9, s10, s14, s21, s31, s33, s41, s52, s57, s70] H : R))
noncomputable def r96_25 (k : KT R) : KT R := fun fr H => opn 18 fr (fun s0 s2 s3 s4 s5 s6 s7 s8 s9 s10 s14 s21 s31 s33 s41 s52 s57 s70 => 
(qLenS s0 fun v69 =>
qLss X 3 s8 v69 fun v70 =>
k [s0, s2, s3, s4, s5, s6, s7, s8, s9, s10, s14, s21, s31, s33, s41, s52, s57, v70] H : R))
noncomputable def r96_17 (k : KT R) : KT R := fun fr H => opn 18 fr (fun s0 s2 s3 s4 s5 s6 s7 s8 s9 s10 s14 s21 s31 s33 s41 s52 s57 s70 => 
(qAdd X 3 s9 (.int .i64 1) fun v43 =>
k [s0, s2, s3, s4, s5, s6, s7, s8, v43, s10, s14, s21, s31, s33, s41, s52, s57, s70] H : R))
noncomputable def r96_24 (k : KT R) : KT R := fun fr H => opn 18 fr (fun s0 s2 s3 s4 s5 s6 s7 s8 s9 s10 s14 s21 s31 s33 s41 s52 s57 s70 => 
(qAdd X 3 s9 (.int .i64 1) fun v66 =>
k [s0, s2, s3, s4, s5, s6, s7, v66, s9, s10, s14, s21, s31, s33, s41, s52, s57, s70] H : R))
noncomputable def r96_23 (C : CallF) (k : KT R) : KT R := fun fr H => opn 18 fr (fun s0 s2 s3 s4 s5 s6 s7 s8 s9 s10 s14 s21 s31 s33 s41 s52 s57 s70 => 
(qRes (C 51 [s7, s10] H) fun v64 H =>
k [s0, s2, s3, s4, s5, s6, s7, s8, s9, s10, s14, s21, s31, s33, s41, s52, s57, s70] H : R))
noncomputable def r96_22 (C : CallF) (k : KT R) : KT R := fun fr H => opn 18 fr (fun s0 s2 s3 s4 s5 s6 s7 s8 s9 s10 s14 s21 s31 s33 s41 s52 s57 s70 => 
(qSlc Tryd.t9.desc 0 s0 (some s8) (some s9) none fun v61 =>
qRes (C 53 [s7, v61] H) fun v62 H =>
k [s0, s2, s3, s4, s5, s6, s7, s8, s9, s10, s14, s21, s31, s33, s41, s52, s57, s70] H : R))
noncomputable def r96_21 (k : KT R) : KT R := fun fr H => opn 18 fr (fun s0 s2 s3 s4 s5 s6 s7 s8 s9 s10 s14 s21 s31 s33 s41 s52 s57 s70 => 
(qLss X 3 s8 s9 fun v57 =>
k [s0, s2, s3, s4, s5, s6, s7, s8, s9, s10, s14, s21, s31, s33, s41, s52, v57, s70] H : R))
noncomputable def r96_20 (k : KT R) : KT R := fun fr H => opn 18 fr (fun s0 s2 s3 s4 s5 s6 s7 s8 s9 s10 s14 s21 s31 s33 s41 s52 s57 s70 => 
(qAdd X 5 s10 (.int .u8 32) fun v54 =>
k [s0, s2, s3, s4, s5, s6, s7, s8, s9, v54, s14, s21, s31, s33, s41, s52, s57, s70] H : R))
noncomputable def r96_19 (k : KT R) : KT R := fun fr H => opn 18 fr (fun s0 s2 s3 s4 s5 s6 s7 s8 s9 s10 s14 s21 s31 s33 s41 s52 s57 s70 => 
(qLeq X 5 (.int .u8 65) s10 fun v48 =>
qG v48 true (fun k => k s10 H) H fun v50 H =>
qG v48 true (fun k => qLeq X 5 v50 (.int .u8 90) fun v => k v H) H fun v51 H =>
qPick v48 v51 (.bool false) fun v52 =>
k [s0, s2, s3, s4, s5, s6, s7, s8, s9, s10, s14, s21, s31, s33, s41, v52, s57, s70] H : R))
noncomputable def r96_18 (k : KT R) : KT R := fun fr H => opn 18 fr (fun s0 s2 s3 s4 s5 s6 s7 s8 s9 s10 s14 s21 s31 s33 s41 s52 s57 s70 => 
(qIx s0 s9 fun v46 =>
k [s0, s2, s3, s4, s5, s6, s7, s8, s9, v46, s14, s21, s31, s33, s41, s52, s57, s70] H : R))
noncomputable def r96_16 (k : KT R) : KT R := fun fr H => opn 18 fr (fun s0 s2 s3 s4 s5 s6 s7 s8 s9 s10 s14 s21 s31 s33 s41 s52 s57 s70 => 
(qLenS s0 fun v40 =>
qLss X 3 s9 v40 fun v41 =>
k [s0, s2, s3, s4, s5, s6, s7, s8, s9, s10, s14, s21, s31, s33, v41, s52, s57, s70] H : R))
noncomputable def l96_8 (C : CallF) (k3 : KT R) : KT R → KT R := fun k4 => (r96_16 (qCd (sel 14) (fun k8 => k8) (fun _ => k3) (qBl (fun k5 => (r96_18 (r96_19 (qCd (sel 15) (fun k6 => (r96_20 (r96_21 (qCd (sel 16) (fun k7 => (r96_22 C k7)) (fun k7 => k7) (r96_23 C (r96_24 k6)))))) (fun k6 => k6) k5)))) (r96_17 k4))))
noncomputable def r96_15 (k : KT R) : KT R := fun fr H => opn 18 fr (fun s0 s2 s3 s4 s5 s6 s7 s8 s9 s10 s14 s21 s31 s33 s41 s52 s57 s70 => 
(k [s0, s2, s3, s4, s5, s6, s7, s8, (.int .i64 0), s10, s14, s21, s31, s33, s41, s52, s57, s70] H : R))
noncomputable def r96_14 (C : CallF) (k : KT R) : KT R := fun fr H => opn 18 fr (fun s0 s2 s3 s4 s5 s6 s7 s8 s9 s10 s14 s21 s31 s33 s41 s52 s57 s70 => 
(qLenS s0 fun v36 =>
qRes (C 87 [s7, v36] H) fun v37 H =>
k [s0, s2, s3, s4, s5, s6, s7, s8, s9, s10, s14, s21, s31, s33, s41, s52, s57, s70] H : R))
noncomputable def r96_13 (k : KT R) : KT R := fun fr H => opn 18 fr (fun s0 s2 s3 s4 s5 s6 s7 s8 s9 s10 s14 s21 s31 s33 s41 s52 s57 s70 => 
(k [s0, s2, s3, s4, s5, s6, s7, (.int .i64 0), s9, s10, s14, s21, s31, s33, s41, s52, s57, s70] H : R))
noncomputable def r96_12 (k : KT R) : KT R := fun fr H => opn 18 fr (fun s0 s2 s3 s4 s5 s6 s7 s8 s9 s10 s14 s21 s31 s33 s41 s52 s57 s70 => 
(qNew (.obj 63 0 z63) .ptr H fun v7 H =>
k [s0, s2, s3, s4, s5, s6, v7, s8, s9, s10, s14, s21, s31, s33, s41, s52, s57, s70] H : R))
noncomputable def r96_11 (k : KT R) : KT R := fun fr H => opn 18 fr (fun s0 s2 s3 s4 s5 s6 s7 s8 s9 s10 s14 s21 s31 s33 s41 s52 s57 s70 => 
(k [s0, s0, s3, s4, s5, s6, s7, s8, s9, s10, s14, s21, s31, s33, s41, s52, s57, s70] H : R))
noncomputable def r96_10 (k : KT R) : KT R := fun fr H => opn 18 fr (fun s0 s2 s3 s4 s5 s6 s7 s8 s9 s10 s14 s21 s31 s33 s41 s52 s57 s70 => 
(qNot s4 fun v33 =>
k [s0, s2, s3, s4, s5, s6, s7, s8, s9, s10, s14, s21, s31, v33, s41, s52, s57, s70] H : R))
noncomputable def r96_9 (k : KT R) : KT R := fun fr H => opn 18 fr (fun s0 s2 s3 s4 s5 s6 s7 s8 s9 s10 s14 s21 s31 s33 s41 s52 s57 s70 => 
(k [s0, s2, s3, s4, s5, s6, s7, s8, s9, s10, s14, s21, s3, s33, s41, s52, s57, s70] H : R))
noncomputable def r96_4 (k : KT R) : KT R := fun fr H => opn 18 fr (fun s0 s2 s3 s4 s5 s6 s7 s8 s9 s10 s14 s21 s31 s33 s41 s52 s57 s70 => 
(qAdd X 3 s5 (.int .i64 1) fun v16 =>
k [s0, s2, s3, s4, v16, s6, s7, s8, s9, s10, s14, s21, s31, s33, s41, s52, s57, s70] H : R))
noncomputable def r96_8 (k : KT R) : KT R := fun fr H => opn 18 fr (fun s0 s2 s3 s4 s5 s6 s7 s8 s9 s10 s14 s21 s31 s33 s41 s52 s57 s70 => 
(qG s4 false (fun k => k s6 H) H fun v24 H =>
qG s4 false (fun k => qLeq X 5 (.int .u8 65) v24 fun v => k v H) H fun v25 H =>
qG s4 false (fun k => k v25 H) H fun v26 H =>
qG v26 true (fun k => k s6 H) H fun v27 H =>
qG v26 true (fun k => qLeq X 5 v27 (.int .u8 90) fun v => k v H) H fun v28 H =>
qG s4 false (fun k => qPick v26 v28 (.bool false) fun v => k v H) H fun v29 H =>
qPick s4 (.bool true) v29 fun v30 =>
k [s0, s2, s3, v30, s5, s6, s7, s8, s9, s10, s14, s21, s31, s33, s41, s52, s57, s70] H : R))
noncomputable def r96_7 (k : KT R) : KT R := fun fr H => opn 18 fr (fun s0 s2 s3 s4 s5 s6 s7 s8 s9 s10 s14 s21 s31 s33 s41 s52 s57 s70 => 
(k [s0, s2, (.bool false), s4, s5, s6, s7, s8, s9, s10, s14, s21, s31, s33, s41, s52, s57, s70] H : R))
noncomputable def r96_6 (k : KT R) : KT R := fun fr H => opn 18 fr (fun s0 s2 s3 s4 s5 s6 s7 s8 s9 s10 s14 s21 s31 s33 s41 s52 s57 s70 => 
(qGeq X 5 s6 (.int .u8 128) fun v21 =>
k [s0, s2, s3, s4, s5, s6, s7, s8, s9, s10, s14, v21, s31, s33, s41, s52, s57, s70] H : R))
noncomputable def r96_5 (k : KT R) : KT R := fun fr H => opn 18 fr (fun s0 s2 s3 s4 s5 s6 s7 s8 s9 s10 s14 s21 s31 s33 s41 s52 s57 s70 => 
(qIx s0 s5 fun v19 =>
k [s0, s2, s3, s4, s5, v19, s7, s8, s9, s10, s14, s21, s31, s33, s41, s52, s57, s70] H : R))
noncomputable def r96_3 (k : KT R) : KT R := fun fr H => opn 18 fr (fun s0 s2 s3 s4 s5 s6 s7 s8 s9 s10 s14 s21 s31 s33 s41 s52 s57 s70 => 
(qLenS s0 fun v13 =>
qLss X 3 s5 v13 fun v14 =>
k [s0, s2, s3, s4, s5, s6, s7, s8, s9, s10, v14, s21, s31, s33, s41, s52, s57, s70] H : R))
noncomputable def l96_14 (k10 : KT R) : KT R → KT R := fun k11 => (r96_3 (qCd (sel 10) (fun k14 => k14) (fun _ => k10) (qBl (fun k12 => (r96_5 (r96_6 (qCd (sel 11) (fun _ => (r96_7 k10)) (fun k13 => k13) (r96_8 k12))))) (r96_4 k11))))
noncomputable def r96_2 (k : KT R) : KT R := fun fr H => opn 18 fr (fun s0 s2 s3 s4 s5 s6 s7 s8 s9 s10 s14 s21 s31 s33 s41 s52 s57 s70 => 
(k [s0, s2, s3, s4, (.int .i64 0), s6, s7, s8, s9, s10, s14, s21, s31, s33, s41, s52, s57, s70] H : R))
noncomputable def r96_1 (k : KT R) : KT R := fun fr H => opn 18 fr (fun s0 s2 s3 s4 s5 s6 s7 s8 s9 s10 s14 s21 s31 s33 s41 s52 s57 s70 => 
(k [s0, s2, (.bool true), (.bool false), s5, s6, s7, s8, s9, s10, s14, s21, s31, s33, s41, s52, s57, s70] H : R))
noncomputable def r96_0 (k : KT R) : KT R := fun fr H => opn 18 fr (fun s0 s2 s3 s4 s5 s6 s7 s8 s9 s10 s14 s21 s31 s33 s41 s52 s57 s70 => 
(k [s0, (.str []), s3, s4, s5, s6, s7, s8, s9, s10, s14, s21, s31, s33, s41, s52, s57, s70] H : R))
noncomputable def c96 (C : CallF) (l0 : List AV) (H : AH) (k : AV → AH → R) : R := opn 1 l0 (fun x0 => (qFn (fun kr => (r96_0 (r96_1 (r96_2 (qBl (fun k10 => (qLoop (l96_14 k10))) (r96_9 (qCd (sel 12) (fun _ => (r96_10 (qCd (sel 13) (fun _ => (r96_11 kr)) (fun k9 => k9) (r96_12 (r96_13 (r96_14 C (r96_15 (qBl (fun k3 => (qLoop (l96_8 C k3))) (r96_25 (qCd (sel 17) (fun k2 => (r96_26 C k2)) (fun k2 => k2) (r96_27 C kr))))))))))) (fun k1 => k1) (r96_28 C kr))))))))
(fun fr H => k (sel 1 fr) H) [x0, Aes.undef, Aes.undef, Aes.undef, Aes.undef, Aes.undef, Aes.undef, Aes.undef, Aes.undef, Aes.undef, Aes.undef, Aes.undef, Aes.undef, Aes.undef, Aes.undef, Aes.undef, Aes.undef, Aes.undef] H : R))
/- strings.explode -/
noncomputable def r97_13 (k : KT R) : KT R := fun fr H => opn 10 fr (fun s0 s1 s4 s5 s6 s7 s9 s18 s25 s43 => 
(k [s0, s1, s6, s5, s6, s7, s9, s18, s25, s43] H : R))
noncomputable def r97_12 (k : KT R) : KT R := fun fr H => opn 10 fr (fun s0 s1 s4 s5 s6 s7 s9 s18 s25 s43 => 
(qSub X 3 s1 (.int .i64 1) fun v46 =>
qIa 1 s6 v46 fun v48 =>
qSt 1 v48 s0 H fun _ H =>
k [s0, s1, s4, s5, s6, s7, s9, s18, s25, s43] H : R))
noncomputable def r97_11 (k : KT R) : KT R := fun fr H => opn 10 fr (fun s0 s1 s4 s5 s6 s7 s9 s18 s25 s43 => 
(qGtr X 3 s1 (.int .i64 0) fun v43 =>
k [s0, s1, s4, s5, s6, s7, s9, s18, s25, v43] H : R))
noncomputable def r97_7 (k : KT R) : KT R := fun fr H => opn 10 fr (fun s0 s1 s4 s5 s6 s7 s9 s18 s25 s43 => 
(qAdd X 3 s7 (.int .i64 1) fun v27 =>
k [s0, s1, s4, s5, s6, v27, s9, s18, s25, s43] H : R))
noncomputable def r97_10 (k : KT R) : KT R := fun fr H => opn 10 fr (fun s0 s1 s4 s5 s6 s7 s9 s18 s25 s43 => 
(qSlc Tryd.t9.desc 0 s0 (some s9) none none fun v41 =>
k [v41, s1, s4, s5, s6, s7, s9, s18, s25, s43] H : R))
noncomputable def r97_9 (k : KT R) : KT R := fun fr H => opn 10 fr (fun s0 s1 s4 s5 s6 s7 s9 s18 s25 s43 => 
(qSlc Tryd.t9.desc 0 s0 none (some s9) none fun v37 =>
qIa 1 s6 s7 fun v38 =>
qSt 1 v38 v37 H fun _ H =>
k [s0, s1, s4, s5, s6, s7, s9, s18, s25, s43] H : R))
noncomputable def r97_8 (C : CallF) (k : KT R) : KT R := fun fr H => opn 10 fr (fun s0 s1 s4 s5 s6 s7 s9 s18 s25 s43 => 
(qRes (C 100 [s0] H) fun v30 H =>
qExt v30 0 fun v31 =>
qExt v30 1 fun v32 =>
k [s0, s1, s4, s5, s6, s7, v32, s18, s25, s43] H : R))
noncomputable def r97_6 (k : KT R) : KT R := fun fr H => opn 10 fr (fun s0 s1 s4 s5 s6 s7 s9 s18 s25 s43 => 
(qSub X 3 s1 (.int .i64 1) fun v24 =>
qLss X 3 s7 v24 fun v25 =>
k [s0, s1, s4, s5, s6, s7, s9, s18, v25, s43] H : R))
noncomputable def l97_5 (C : CallF) (k2 : KT R) : KT R → KT R := fun k3 => (r97_6 (qCd (sel 8) (fun k5 => k5) (fun _ => k2) (qBl (fun k4 => (r97_8 C (r97_9 (r97_10 k4)))) (r97_7 k3))))
noncomputable def r97_5 (k : KT R) : KT R := fun fr H => opn 10 fr (fun s0 s1 s4 s5 s6 s7 s9 s18 s25 s43 => 
(k [s0, s1, s4, s5, s6, (.int .i64 0), s9, s18, s25, s43] H : R))
noncomputable def r97_4 (k : KT R) : KT R := fun fr H => opn 10 fr (fun s0 s1 s4 s5 s6 s7 s9 s18 s25 s43 => 
(qMkS z9 1 16 s1 s1 H fun v21 H =>
k [s0, s1, s4, s5, v21, s7, s9, s18, s25, s43] H : R))
noncomputable def r97_3 (k : KT R) : KT R := fun fr H => opn 10 fr (fun s0 s1 s4 s5 s6 s7 s9 s18 s25 s43 => 
(k [s0, s5, s4, s5, s6, s7, s9, s18, s25, s43] H : R))
noncomputable def r97_2 (k : KT R) : KT R := fun fr H => opn 10 fr (fun s0 s1 s4 s5 s6 s7 s9 s18 s25 s43 => 
(qLss X 3 s1 (.int .i64 0) fun v13 =>
qG v13 false (fun k => k s1 H) H fun v15 H =>
qG v13 false (fun k => k s5 H) H fun v16 H =>
qG v13 false (fun k => qGtr X 3 v15 v16 fun v => k v H) H fun v17 H =>
qPick v13 (.bool true) v17 fun v18 =>
k [s0, s1, s4, s5, s6, s7, s9, v18, s25, s43] H : R))
noncomputable def r97_1 (C : CallF) (k : KT R) : KT R := fun fr H => opn 10 fr (fun s0 s1 s4 s5 s6 s7 s9 s18 s25 s43 => 
(qRes (C 106 [s0] H) fun v11 H =>
k [s0, s1, s4, v11, s6, s7, s9, s18, s25, s43] H : R))
noncomputable def r97_0 (k : KT R) : KT R := fun fr H => opn 10 fr (fun s0 s1 s4 s5 s6 s7 s9 s18 s25 s43 => 
(k [s0, s1, (.sl [] .nil), s5, s6, s7, s9, s18, s25, s43] H : R))
noncomputable def c97 (C : CallF) (l0 : List AV) (H : AH) (k : AV → AH → R) : R := opn 2 l0 (fun x0 x1 => (qFn (fun kr => (r97_0 (r97_1 C (r97_2 (qCd (sel 7) (fun k6 => (r97_3 k6)) (fun k6 => k6) (r97_4 (r97_5 (qBl (fun k2 => (qLoop (l97_5 C k2))) (r97_11 (qCd (sel 9) (fun k1 => (r97_12 k1)) (fun k1 => k1) (r97_13 kr)))))))))))
(fun fr H => k (sel 2 fr) H) [x0, x1, Aes.undef, Aes.undef, Aes.undef, Aes.undef, Aes.undef, Aes.undef, Aes.undef, Aes.undef] H : R))
/- strings.Count -/
noncomputable def r98_10 (k : KT R) : KT R := fun fr H => opn 8 fr (fun s0 s1 s4 s5 s6 s9 s15 s24 => 
(qLenS s1 fun v31 =>
qAdd X 3 s6 v31 fun v32 =>
qSlc Tryd.t9.desc 0 s0 (some v32) none none fun v33 =>
k [v33, s1, s4, s5, s6, s9, s15, s24] H : R))
noncomputable def r98_9 (k : KT R) : KT R := fun fr H => opn 8 fr (fun s0 s1 s4 s5 s6 s9 s15 s24 => 
(qAdd X 3 s5 (.int .i64 1) fun v27 =>
k [s0, s1, s4, v27, s6, s9, s15, s24] H : R))
noncomputable def r98_8 (k : KT R) : KT R := fun fr H => opn 8 fr (fun s0 s1 s4 s5 s6 s9 s15 s24 => 
(k [s0, s1, s5, s5, s6, s9, s15, s24] H : R))
noncomputable def r98_7 (k : KT R) : KT R := fun fr H => opn 8 fr (fun s0 s1 s4 s5 s6 s9 s15 s24 => 
(qEql X 3 s6 (.int .i64 (-1)) fun v24 =>
k [s0, s1, s4, s5, s6, s9, s15, v24] H : R))
noncomputable def r98_6 (C : CallF) (k : KT R) : KT R := fun fr H => opn 8 fr (fun s0 s1 s4 s5 s6 s9 s15 s24 => 
(qRes (C 99 [s0, s1] H) fun v22 H =>
k [s0, s1, s4, s5, v22, s9, s15, s24] H : R))
noncomputable def l98_4 (C : CallF) (kr : KT R) : KT R → KT R := fun k2 => (qBl (fun k3 => (r98_6 C (r98_7 (qCd (sel 7) (fun _ => (r98_8 kr)) (fun k4 => k4) (r98_9 (r98_10 k3)))))) k2)
noncomputable def r98_5 (k : KT R) : KT R := fun fr H => opn 8 fr (fun s0 s1 s4 s5 s6 s9 s15 s24 => 
(k [s0, s1, s4, (.int .i64 0), s6, s9, s15, s24] H : R))
noncomputable def r98_4 (C : CallF) (k : KT R) : KT R := fun fr H => opn 8 fr (fun s0 s1 s4 s5 s6 s9 s15 s24 => 
(qIx s1 (.int .i64 0) fun v18 =>
qRes (C 107 [s0, v18] H) fun v19 H =>
k [s0, s1, v19, s5, s6, s9, s15, s24] H : R))
noncomputable def r98_3 (k : KT R) : KT R := fun fr H => opn 8 fr (fun s0 s1 s4 s5 s6 s9 s15 s24 => 
(qLenS s1 fun v14 =>
qEql X 3 v14 (.int .i64 1) fun v15 =>
k [s0, s1, s4, s5, s6, s9, v15, s24] H : R))
noncomputable def r98_2 (C : CallF) (k : KT R) : KT R := fun fr H => opn 8 fr (fun s0 s1 s4 s5 s6 s9 s15 s24 => 
(qRes (C 106 [s0] H) fun v11 H =>
qAdd X 3 v11 (.int .i64 1) fun v12 =>
k [s0, s1, v12, s5, s6, s9, s15, s24] H : R))
noncomputable def r98_1 (k : KT R) : KT R := fun fr H => opn 8 fr (fun s0 s1 s4 s5 s6 s9 s15 s24 => 
(qLenS s1 fun v8 =>
qEql X 3 v8 (.int .i64 0) fun v9 =>
k [s0, s1, s4, s5, s6, v9, s15, s24] H : R))
noncomputable def r98_0 (k : KT R) : KT R := fun fr H => opn 8 fr (fun s0 s1 s4 s5 s6 s9 s15 s24 => 
(k [s0, s1, (.int .i64 0), s5, s6, s9, s15, s24] H : R))
noncomputable def c98 (C : CallF) (l0 : List AV) (H : AH) (k : AV → AH → R) : R := opn 2 l0 (fun x0 x1 => (qFn (fun kr => (r98_0 (r98_1 (qCd (sel 5) (fun _ => (r98_2 C kr)) (fun k6 => k6) (r98_3 (qCd (sel 6) (fun _ => (r98_4 C kr)) (fun k5 => k5) (r98_5 (qBl (fun k1 => (qLoop (l98_4 C kr))) kr))))))))
(fun fr H => k (sel 2 fr) H) [x0, x1, Aes.undef, Aes.undef, Aes.undef, Aes.undef, Aes.undef, Aes.undef] H : R))
/- strings.Index -/
noncomputable def r99_1 (C : CallF) (k : KT R) : KT R := fun fr H => opn 3 fr (fun s0 s1 s4 => 
(qRes (C 108 [s0, s1] H) fun v7 H =>
k [s0, s1, v7] H : R))
noncomputable def r99_0 (k : KT R) : KT R := fun fr H => opn 3 fr (fun s0 s1 s4 => 
(k [s0, s1, (.int .i64 0)] H : R))
noncomputable def c99 (C : CallF) (l0 : List AV) (H : AH) (k : AV → AH → R) : R := opn 2 l0 (fun x0 x1 => (qFn (fun kr => (r99_0 (r99_1 C kr)))
(fun fr H => k (sel 2 fr) H) [x0, x1, Aes.undef] H : R))
/- unicode/utf8.DecodeRuneInString -/
noncomputable def r100_2 (k : KT R) : KT R := fun fr H => opn 4 fr (fun s0 s2 s3 s10 => 
(qIx s0 (.int .i64 0) fun v12 =>
qConvI .i32 v12 fun v13 =>
k [s0, v13, (.int .i64 1), s10] H : R))
noncomputable def r100_3 (C : CallF) (k : KT R) : KT R := fun fr H => opn 4 fr (fun s0 s2 s3 s10 => 
(qRes (C 109 [s0] H) fun v16 H =>
qExt v16 0 fun v17 =>
qExt v16 1 fun v18 =>
k [s0, v17, v18, s10] H : R))
noncomputable def r100_1 (k : KT R) : KT R := fun fr H => opn 4 fr (fun s0 s2 s3 s10 => 
(qNeq X 9 s0 (.str []) fun v5 =>
qG v5 true (fun k => k s0 H) H fun v7 H =>
qG v5 true (fun k => qIx v7 (.int .i64 0) fun v => k v H) H fun v8 H =>
qG v5 true (fun k => qLss X 5 v8 (.int .u8 128) fun v => k v H) H fun v9 H =>
qPick v5 v9 (.bool false) fun v10 =>
k [s0, s2, s3, v10] H : R))
noncomputable def r100_0 (k : KT R) : KT R := fun fr H => opn 4 fr (fun s0 s2 s3 s10 => 
(k [s0, (.int .i32 0), (.int .i64 0), s10] H : R))
noncomputable def c100 (C : CallF) (l0 : List AV) (H : AH) (k : AV → AH → R) : R := opn 1 l0 (fun x0 => (qFn (fun kr => (r100_0 (r100_1 (qCd (sel 3) (fun _ => (r100_2 kr)) (fun k1 => (r100_3 C k1)) kr))))
(fun fr H => k (.tup [(sel 1 fr), (sel 2 fr)]) H) [x0, Aes.undef, Aes.undef, Aes.undef] H : R))
/- (*strings.asciiSet).contains -/
noncomputable def r102_1 (k : KT R) : KT R := fun fr H => opn 3 fr (fun s0 s1 s4 => 
(qNc s0 fun v7 =>
qIaA 256 1 v7 s1 fun v8 =>
qLd v8 H fun v9 =>
k [s0, s1, v9] H : R))
noncomputable def r102_0 (k : KT R) : KT R := fun fr H => opn 3 fr (fun s0 s1 s4 => 
(k [s0, s1, (.bool false)] H : R))
noncomputable def c102 (C : CallF) (l0 : List AV) (H : AH) (k : AV → AH → R) : R := opn 2 l0 (fun x0 x1 => (qFn (fun kr => (r102_0 (r102_1 kr)))
(fun fr H => k (sel 2 fr) H) [x0, x1, Aes.undef] H : R))
/- strings.ContainsRune -/
noncomputable def r103_1 (C : CallF) (k : KT R) : KT R := fun fr H => opn 3 fr (fun s0 s1 s4 => 
(qRes (C 52 [s0, s1] H) fun v7 H =>
qGeq X 3 v7 (.int .i64 0) fun v8 =>
k [s0, s1, v8] H : R))
noncomputable def r103_0 (k : KT R) : KT R := fun fr H => opn 3 fr (fun s0 s1 s4 => 
(k [s0, s1, (.bool false)] H : R))
noncomputable def c103 (C : CallF) (l0 : List AV) (H : AH) (k : AV → AH → R) : R := opn 2 l0 (fun x0 x1 => (qFn (fun kr => (r103_0 (r103_1 C kr)))
(fun fr H => k (sel 2 fr) H) [x0, x1, Aes.undef] H : R))
/- strings.Map -/
noncomputable def r104_27 (C : CallF) (k : KT R) : KT R := fun fr H => opn 23 fr (fun s0 s1 s4 s5 s6 s7 s8 s9 s11 s12 s14 s15 s16 s28 s30 s44 s56 s65 s68 s69 s70 s76 s78 => 
(qRes (C 48 [s5] H) fun v84 H =>
k [s0, s1, v84, s5, s6, s7, s8, s9, s11, s12, s14, s15, s16, s28, s30, s44, s56, s65, s68, s69, s70, s76, s78] H : R))
noncomputable def r104_25 (C : CallF) (k : KT R) : KT R := fun fr H => opn 23 fr (fun s0 s1 s4 s5 s6 s7 s8 s9 s11 s12 s14 s15 s16 s28 s30 s44 s56 s65 s68 s69 s70 s76 s78 => 
(qConvI .u8 s12 fun v80 =>
qRes (C 51 [s5, v80] H) fun v81 H =>
k [s0, s1, s4, s5, s6, s7, s8, s9, s11, s12, s14, s15, s16, s28, s30, s44, s56, s65, s68, s69, s70, s76, s78] H : R))
noncomputable def r104_26 (C : CallF) (k : KT R) : KT R := fun fr H => opn 23 fr (fun s0 s1 s4 s5 s6 s7 s8 s9 s11 s12 s14 s15 s16 s28 s30 s44 s56 s65 s68 s69 s70 s76 s78 => 
(qRes (C 54 [s5, s12] H) fun v83 H =>
k [s0, s1, s4, s5, s6, s7, s8, s9, s11, s12, s14, s15, s16, s28, s30, s44, s56, s65, s68, s69, s70, s76, s78] H : R))
noncomputable def r104_24 (k : KT R) : KT R := fun fr H => opn 23 fr (fun s0 s1 s4 s5 s6 s7 s8 s9 s11 s12 s14 s15 s16 s28 s30 s44 s56 s65 s68 s69 s70 s76 s78 => 
(qLss X 21 s12 (.int .i32 128) fun v78 =>
k [s0, s1, s4, s5, s6, s7, s8, s9, s11, s12, s14, s15, s16, s28, s30, s44, s56, s65, s68, s69, s70, s76, v78] H : R))
noncomputable def r104_23 (k : KT R) : KT R := fun fr H => opn 23 fr (fun s0 s1 s4 s5 s6 s7 s8 s9 s11 s12 s14 s15 s16 s28 s30 s44 s56 s65 s68 s69 s70 s76 s78 => 
(qGeq X 21 s12 (.int .i32 0) fun v76 =>
k [s0, s1, s4, s5, s6, s7, s8, s9, s11, s12, s14, s15, s16, s28, s30, s44, s56, s65, s68, s69, s70, v76, s78] H : R))
noncomputable def r104_22 (C : CallF) (k : KT R) : KT R := fun fr H => opn 23 fr (fun s0 s1 s4 s5 s6 s7 s8 s9 s11 s12 s14 s15 s16 s28 s30 s44 s56 s65 s68 s69 s70 s76 s78 => 
(qCallV C s0 [s11] H fun v74 H =>
k [s0, s1, s4, s5, s6, s7, s8, s9, s11, v74, s14, s15, s16, s28, s30, s44, s56, s65, s68, s69, s70, s76, s78] H : R))
noncomputable def r104_21 (k : KT R) : KT R := fun fr H => opn 23 fr (fun s0 s1 s4 s5 s6 s7 s8 s9 s11 s12 s14 s15 s16 s28 s30 s44 s56 s65 s68 s69 s70 s76 s78 => 
(qExt s69 2 fun v71 =>
k [s0, s1, s4, s5, s6, s7, s8, s9, v71, s12, s14, s15, s16, s28, s30, s44, s56, s65, s68, s69, s70, s76, s78] H : R))
noncomputable def r104_20 (k : KT R) : KT R := fun fr H => opn 23 fr (fun s0 s1 s4 s5 s6 s7 s8 s9 s11 s12 s14 s15 s16 s28 s30 s44 s56 s65 s68 s69 s70 s76 s78 => 
(qNext s68 H fun v69 H =>
qExt v69 0 fun v70 =>
k [s0, s1, s4, s5, s6, s7, s8, s9, s11, s12, s14, s15, s16, s28, s30, s44, s56, s65, s68, v69, v70, s76, s78] H : R))
noncomputable def l104_6 (C : CallF) (k1 : KT R) : KT R → KT R := fun k2 => (r104_20 (qCd (sel 20) (fun k6 => k6) (fun _ => k1) (qBl (fun k3 => (r104_21 (r104_22 C (r104_23 (qCd (sel 21) (fun k4 => (r104_24 (qCd (sel 22) (fun k5 => (r104_25 C k5)) (fun k5 => (r104_26 C k5)) k4))) (fun k4 => k4) k3))))) k2)))
noncomputable def r104_19 (k : KT R) : KT R := fun fr H => opn 23 fr (fun s0 s1 s4 s5 s6 s7 s8 s9 s11 s12 s14 s15 s16 s28 s30 s44 s56 s65 s68 s69 s70 s76 s78 => 
(qRange s1 H fun v68 H =>
k [s0, s1, s4, s5, s6, s7, s8, s9, s11, s12, s14, s15, s16, s28, s30, s44, s56, s65, v68, s69, s70, s76, s78] H : R))
noncomputable def r104_18 (k : KT R) : KT R := fun fr H => opn 23 fr (fun s0 s1 s4 s5 s6 s7 s8 s9 s11 s12 s14 s15 s16 s28 s30 s44 s56 s65 s68 s69 s70 s76 s78 => 
(k [s0, s1, s1, s5, s6, s7, s8, s9, s11, s12, s14, s15, s16, s28, s30, s44, s56, s65, s68, s69, s70, s76, s78] H : R))
noncomputable def r104_17 (C : CallF) (k : KT R) : KT R := fun fr H => opn 23 fr (fun s0 s1 s4 s5 s6 s7 s8 s9 s11 s12 s14 s15 s16 s28 s30 s44 s56 s65 s68 s69 s70 s76 s78 => 
(qRes (C 112 [s5] H) fun v64 H =>
qEql X 3 v64 (.int .i64 0) fun v65 =>
k [s0, s1, s4, s5, s6, s7, s8, s9, s11, s12, s14, s15, s16, s28, s30, s44, s56, v65, s68, s69, s70, s76, s78] H : R))
noncomputable def r104_16 (k : KT R) : KT R := fun fr H => opn 23 fr (fun s0 s1 s4 s5 s6 s7 s8 s9 s11 s12 s14 s15 s16 s28 s30 s44 s56 s65 s68 s69 s70 s76 s78 => 
(qAdd X 3 s6 s9 fun v62 =>
qSlc Tryd.t9.desc 0 s1 (some v62) none none fun v63 =>
k [s0, v63, s4, s5, s6, s7, s8, s9, s11, s12, s14, s15, s16, s28, s30, s44, s56, s65, s68, s69, s70, s76, s78] H : R))
noncomputable def r104_15 (C : CallF) (k : KT R) : KT R := fun fr H => opn 23 fr (fun s0 s1 s4 s5 s6 s7 s8 s9 s11 s12 s14 s15 s16 s28 s30 s44 s56 s65 s68 s69 s70 s76 s78 => 
(qRes (C 54 [s5, s8] H) fun v58 H =>
k [s0, s1, s4, s5, s6, s7, s8, s9, s11, s12, s14, s15, s16, s28, s30, s44, s56, s65, s68, s69, s70, s76, s78] H : R))
noncomputable def r104_14 (k : KT R) : KT R := fun fr H => opn 23 fr (fun s0 s1 s4 s5 s6 s7 s8 s9 s11 s12 s14 s15 s16 s28 s30 s44 s56 s65 s68 s69 s70 s76 s78 => 
(qGeq X 21 s8 (.int .i32 0) fun v56 =>
k [s0, s1, s4, s5, s6, s7, s8, s9, s11, s12, s14, s15, s16, s28, s30, s44, v56, s65, s68, s69, s70, s76, s78] H : R))
noncomputable def r104_13 (C : CallF) (k : KT R) : KT R := fun fr H => opn 23 fr (fun s0 s1 s4 s5 s6 s7 s8 s9 s11 s12 s14 s15 s16 s28 s30 s44 s56 s65 s68 s69 s70 s76 s78 => 
(qSlc Tryd.t9.desc 0 s1 none (some s6) none fun v53 =>
qRes (C 53 [s5, v53] H) fun v54 H =>
k [s0, s1, s4, s5, s6, s7, s8, s9, s11, s12, s14, s15, s16, s28, s30, s44, s56, s65, s68, s69, s70, s76, s78] H : R))
noncomputable def r104_12 (C : CallF) (k : KT R) : KT R := fun fr H => opn 23 fr (fun s0 s1 s4 s5 s6 s7 s8 s9 s11 s12 s14 s15 s16 s28 s30 s44 s56 s65 s68 s69 s70 s76 s78 => 
(qLenS s1 fun v48 =>
qAdd X 3 v48 (.int .i64 4) fun v49 =>
qRes (C 87 [s5, v49] H) fun v50 H =>
k [s0, s1, s4, s5, s6, s7, s8, s9, s11, s12, s14, s15, s16, s28, s30, s44, s56, s65, s68, s69, s70, s76, s78] H : R))
noncomputable def r104_10 (k : KT R) : KT R := fun fr H => opn 23 fr (fun s0 s1 s4 s5 s6 s7 s8 s9 s11 s12 s14 s15 s16 s28 s30 s44 s56 s65 s68 s69 s70 s76 s78 => 
(qNeq X 3 s9 (.int .i64 1) fun v39 =>
qG v39 true (fun k => k s8 H) H fun v41 H =>
qG v39 true (fun k => k s7 H) H fun v42 H =>
qG v39 true (fun k => qEql X 21 v41 v42 fun v => k v H) H fun v43 H =>
qPick v39 v43 (.bool false) fun v44 =>
k [s0, s1, s4, s5, s6, s7, s8, s9, s11, s12, s14, s15, s16, s28, s30, v44, s56, s65, s68, s69, s70, s76, s78] H : R))
noncomputable def r104_9 (C : CallF) (k : KT R) : KT R := fun fr H => opn 23 fr (fun s0 s1 s4 s5 s6 s7 s8 s9 s11 s12 s14 s15 s16 s28 s30 s44 s56 s65 s68 s69 s70 s76 s78 => 
(qSlc Tryd.t9.desc 0 s1 (some s6) none none fun v34 =>
qRes (C 100 [v34] H) fun v35 H =>
qExt v35 0 fun v36 =>
qExt v35 1 fun v37 =>
k [s0, s1, s4, s5, s6, v36, s8, v37, s11, s12, s14, s15, s16, s28, s30, s44, s56, s65, s68, s69, s70, s76, s78] H : R))
noncomputable def r104_11 (C : CallF) (k : KT R) : KT R := fun fr H => opn 23 fr (fun s0 s1 s4 s5 s6 s7 s8 s9 s11 s12 s14 s15 s16 s28 s30 s44 s56 s65 s68 s69 s70 s76 s78 => 
(qRes (C 111 [s7] H) fun v46 H =>
k [s0, s1, s4, s5, s6, s7, s8, v46, s11, s12, s14, s15, s16, s28, s30, s44, s56, s65, s68, s69, s70, s76, s78] H : R))
noncomputable def r104_8 (k : KT R) : KT R := fun fr H => opn 23 fr (fun s0 s1 s4 s5 s6 s7 s8 s9 s11 s12 s14 s15 s16 s28 s30 s44 s56 s65 s68 s69 s70 s76 s78 => 
(qEql X 21 s7 (.int .i32 65533) fun v30 =>
k [s0, s1, s4, s5, s6, s7, s8, s9, s11, s12, s14, s15, s16, s28, v30, s44, s56, s65, s68, s69, s70, s76, s78] H : R))
noncomputable def r104_7 (k : KT R) : KT R := fun fr H => opn 23 fr (fun s0 s1 s4 s5 s6 s7 s8 s9 s11 s12 s14 s15 s16 s28 s30 s44 s56 s65 s68 s69 s70 s76 s78 => 
(k [s0, s1, s4, s5, s6, s7, s8, (.int .i64 0), s11, s12, s14, s15, s16, s28, s30, s44, s56, s65, s68, s69, s70, s76, s78] H : R))
noncomputable def r104_6 (k : KT R) : KT R := fun fr H => opn 23 fr (fun s0 s1 s4 s5 s6 s7 s8 s9 s11 s12 s14 s15 s16 s28 s30 s44 s56 s65 s68 s69 s70 s76 s78 => 
(qEql X 21 s8 s7 fun v24 =>
qG v24 true (fun k => k s7 H) H fun v26 H =>
qG v24 true (fun k => qNeq X 21 v26 (.int .i32 65533) fun v => k v H) H fun v27 H =>
qPick v24 v27 (.bool false) fun v28 =>
k [s0, s1, s4, s5, s6, s7, s8, s9, s11, s12, s14, s15, s16, v28, s30, s44, s56, s65, s68, s69, s70, s76, s78] H : R))
noncomputable def r104_5 (C : CallF) (k : KT R) : KT R := fun fr H => opn 23 fr (fun s0 s1 s4 s5 s6 s7 s8 s9 s11 s12 s14 s15 s16 s28 s30 s44 s56 s65 s68 s69 s70 s76 s78 => 
(qCallV C s0 [s7] H fun v21 H =>
k [s0, s1, s4, s5, s6, s7, v21, s9, s11, s12, s14, s15, s16, s28, s30, s44, s56, s65, s68, s69, s70, s76, s78] H : R))
noncomputable def r104_4 (k : KT R) : KT R := fun fr H => opn 23 fr (fun s0 s1 s4 s5 s6 s7 s8 s9 s11 s12 s14 s15 s16 s28 s30 s44 s56 s65 s68 s69 s70 s76 s78 => 
(qExt s15 1 fun v17 =>
qExt s15 2 fun v18 =>
k [s0, s1, s4, s5, v17, v18, s8, s9, s11, s12, s14, s15, s16, s28, s30, s44, s56, s65, s68, s69, s70, s76, s78] H : R))
noncomputable def r104_3 (k : KT R) : KT R := fun fr H => opn 23 fr (fun s0 s1 s4 s5 s6 s7 s8 s9 s11 s12 s14 s15 s16 s28 s30 s44 s56 s65 s68 s69 s70 s76 s78 => 
(qNext s14 H fun v15 H =>
qExt v15 0 fun v16 =>
k [s0, s1, s4, s5, s6, s7, s8, s9, s11, s12, s14, v15, v16, s28, s30, s44, s56, s65, s68, s69, s70, s76, s78] H : R))
noncomputable def l104_15 (C : CallF) (k8 : KT R) : KT R → KT R := fun k9 => (r104_3 (qCd (sel 12) (fun k15 => k15) (fun _ => k8) (qBl (fun k10 => (r104_4 (r104_5 C (r104_6 (qCd (sel 13) (fun _ => k10) (fun k14 => k14) (r104_7 (r104_8 (qCd (sel 14) (fun k12 => (r104_9 C (r104_10 (qCd (sel 15) (fun _ => k10) (fun k13 => k13) k12)))) (fun k12 => (r104_11 C k12)) (r104_12 C (r104_13 C (r104_14 (qCd (sel 16) (fun k11 => (r104_15 C k11)) (fun k11 => k11) (r104_16 k8))))))))))))) k9)))
noncomputable def r104_2 (k : KT R) : KT R := fun fr H => opn 23 fr (fun s0 s1 s4 s5 s6 s7 s8 s9 s11 s12 s14 s15 s16 s28 s30 s44 s56 s65 s68 s69 s70 s76 s78 => 
(qRange s1 H fun v14 H =>
k [s0, s1, s4, s5, s6, s7, s8, s9, s11, s12, v14, s15, s16, s28, s30, s44, s56, s65, s68, s69, s70, s76, s78] H : R))
noncomputable def r104_1 (k : KT R) : KT R := fun fr H => opn 23 fr (fun s0 s1 s4 s5 s6 s7 s8 s9 s11 s12 s14 s15 s16 s28 s30 s44 s56 s65 s68 s69 s70 s76 s78 => 
(qNew (.obj 63 0 z63) .ptr H fun v5 H =>
k [s0, s1, s4, v5, s6, s7, s8, s9, s11, s12, s14, s15, s16, s28, s30, s44, s56, s65, s68, s69, s70, s76, s78] H : R))
noncomputable def r104_0 (k : KT R) : KT R := fun fr H => opn 23 fr (fun s0 s1 s4 s5 s6 s7 s8 s9 s11 s12 s14 s15 s16 s28 s30 s44 s56 s65 s68 s69 s70 s76 s78 => 
(k [s0, s1, (.str []), s5, s6, s7, s8, s9, s11, s12, s14, s15, s16, s28, s30, s44, s56, s65, s68, s69, s70, s76, s78] H : R))
noncomputable def c104 (C : CallF) (l0 : List AV) (H : AH) (k : AV → AH → R) : R := opn 2 l0 (fun x0 x1 => (qFn (fun kr => (r104_0 (r104_1 (r104_2 (qBl (fun k8 => (qLoop (l104_15 C k8))) (r104_17 C (qCd (sel 17) (fun _ => (r104_18 kr)) (fun k7 => k7) (r104_19 (qBl (fun k1 => (qLoop (l104_6 C k1))) (r104_27 C kr))))))))))
(fun fr H => k (sel 2 fr) H) [x0, x1, Aes.undef, Aes.undef, Aes.undef, Aes.undef, Aes.undef, Aes.undef, Aes.undef, Aes.undef, Aes.undef, Aes.undef, Aes.undef, Aes.undef, Aes.undef, Aes.undef, Aes.undef, Aes.undef, Aes.undef, Aes.undef, Aes.undef, Aes.undef, Aes.undef] H : R))
/- unicode.ToLower -/
noncomputable def r105_5 (C : CallF) (k : KT R) : KT R := fun fr H => opn 4 fr (fun s0 s2 s4 s10 => 
(qRes (C 113 [(.int .i64 1), s0] H) fun v15 H =>
k [s0, v15, s4, s10] H : R))
noncomputable def r105_4 (k : KT R) : KT R := fun fr H => opn 4 fr (fun s0 s2 s4 s10 => 
(k [s0, s0, s4, s10] H : R))
noncomputable def r105_3 (k : KT R) : KT R := fun fr H => opn 4 fr (fun s0 s2 s4 s10 => 
(qAdd X 21 s0 (.int .i32 32) fun v12 =>
k [v12, s2, s4, s10] H : R))
noncomputable def r105_2 (k : KT R) : KT R := fun fr H => opn 4 fr (fun s0 s2 s4 s10 => 
(qLeq X 21 (.int .i32 65) s0 fun v6 =>
qG v6 true (fun k => k s0 H) H fun v8 H =>
qG v6 true (fun k => qLeq X 21 v8 (.int .i32 90) fun v => k v H) H fun v9 H =>
qPick v6 v9 (.bool false) fun v10 =>
k [s0, s2, s4, v10] H : R))
noncomputable def r105_1 (k : KT R) : KT R := fun fr H => opn 4 fr (fun s0 s2 s4 s10 => 
(qLeq X 21 s0 (.int .i32 127) fun v4 =>
k [s0, s2, v4, s10] H : R))
noncomputable def r105_0 (k : KT R) : KT R := fun fr H => opn 4 fr (fun s0 s2 s4 s10 => 
(k [s0, (.int .i32 0), s4, s10] H : R))
noncomputable def c105 (C : CallF) (l0 : List AV) (H : AH) (k : AV → AH → R) : R := opn 1 l0 (fun x0 => (qFn (fun kr => (r105_0 (r105_1 (qCd (sel 2) (fun _ => (r105_2 (qCd (sel 3) (fun k2 => (r105_3 k2)) (fun k2 => k2) (r105_4 kr)))) (fun k1 => k1) (r105_5 C kr)))))
(fun fr H => k (sel 1 fr) H) [x0, Aes.undef, Aes.undef, Aes.undef] H : R))
/- unicode/utf8.RuneCountInString -/
noncomputable def r106_4 (k : KT R) : KT R := fun fr H => opn 4 fr (fun s0 s2 s4 s6 => 
(k [s0, s2, s4, s6] H : R))
noncomputable def r106_3 (k : KT R) : KT R := fun fr H => opn 4 fr (fun s0 s2 s4 s6 => 
(qAdd X 3 s2 (.int .i64 1) fun v8 =>
k [s0, v8, s4, s6] H : R))
noncomputable def r106_2 (k : KT R) : KT R := fun fr H => opn 4 fr (fun s0 s2 s4 s6 => 
(qNext s4 H fun v5 H =>
qExt v5 0 fun v6 =>
k [s0, s2, s4, v6] H : R))
noncomputable def l106_4 (k1 : KT R) : KT R → KT R := fun k2 => (r106_2 (qCd (sel 3) (fun k4 => k4) (fun _ => k1) (qBl (fun k3 => (r106_3 k3)) k2)))
noncomputable def r106_1 (k : KT R) : KT R := fun fr H => opn 4 fr (fun s0 s2 s4 s6 => 
(qRange s0 H fun v4 H =>
k [s0, s2, v4, s6] H : R))
noncomputable def r106_0 (k : KT R) : KT R := fun fr H => opn 4 fr (fun s0 s2 s4 s6 => 
(k [s0, (.int .i64 0), s4, s6] H : R))
noncomputable def c106 (C : CallF) (l0 : List AV) (H : AH) (k : AV → AH → R) : R := opn 1 l0 (fun x0 => (qFn (fun kr => (r106_0 (r106_1 (qBl (fun k1 => (qLoop (l106_4 k1))) (r106_4 kr)))))
(fun fr H => k (sel 1 fr) H) [x0, Aes.undef, Aes.undef, Aes.undef] H : R))
/- unicode/utf8.RuneLen -/
noncomputable def r111_13 (k : KT R) : KT R := fun fr H => opn 8 fr (fun s0 s2 s3 s6 s9 s12 s19 s22 => 
(k [s0, (.int .i64 (-1)), s3, s6, s9, s12, s19, s22] H : R))
noncomputable def r111_2 (k : KT R) : KT R := fun fr H => opn 8 fr (fun s0 s2 s3 s6 s9 s12 s19 s22 => 
(k [s0, (.int .i64 (-1)), s3, s6, s9, s12, s19, s22] H : R))
noncomputable def r111_4 (k : KT R) : KT R := fun fr H => opn 8 fr (fun s0 s2 s3 s6 s9 s12 s19 s22 => 
(k [s0, (.int .i64 1), s3, s6, s9, s12, s19, s22] H : R))
noncomputable def r111_6 (k : KT R) : KT R := fun fr H => opn 8 fr (fun s0 s2 s3 s6 s9 s12 s19 s22 => 
(k [s0, (.int .i64 2), s3, s6, s9, s12, s19, s22] H : R))
noncomputable def r111_8 (k : KT R) : KT R := fun fr H => opn 8 fr (fun s0 s2 s3 s6 s9 s12 s19 s22 => 
(k [s0, (.int .i64 (-1)), s3, s6, s9, s12, s19, s22] H : R))
noncomputable def r111_10 (k : KT R) : KT R := fun fr H => opn 8 fr (fun s0 s2 s3 s6 s9 s12 s19 s22 => 
(k [s0, (.int .i64 3), s3, s6, s9, s12, s19, s22] H : R))
noncomputable def r111_12 (k : KT R) : KT R := fun fr H => opn 8 fr (fun s0 s2 s3 s6 s9 s12 s19 s22 => 
(k [s0, (.int .i64 4), s3, s6, s9, s12, s19, s22] H : R))
noncomputable def r111_11 (k : KT R) : KT R := fun fr H => opn 8 fr (fun s0 s2 s3 s6 s9 s12 s19 s22 => 
(qLeq X 21 s0 (.int .i32 1114111) fun v24 =>
k [s0, s2, s3, s6, s9, s12, s19, v24] H : R))
noncomputable def r111_9 (k : KT R) : KT R := fun fr H => opn 8 fr (fun s0 s2 s3 s6 s9 s12 s19 s22 => 
(qLeq X 21 s0 (.int .i32 65535) fun v21 =>
k [s0, s2, s3, s6, s9, s12, v21, s22] H : R))
noncomputable def r111_7 (k : KT R) : KT R := fun fr H => opn 8 fr (fun s0 s2 s3 s6 s9 s12 s19 s22 => 
(qLeq X 21 (.int .i32 55296) s0 fun v14 =>
qG v14 true (fun k => k s0 H) H fun v16 H =>
qG v14 true (fun k => qLeq X 21 v16 (.int .i32 57343) fun v => k v H) H fun v17 H =>
qPick v14 v17 (.bool false) fun v18 =>
k [s0, s2, s3, s6, s9, v18, s19, s22] H : R))
noncomputable def r111_5 (k : KT R) : KT R := fun fr H => opn 8 fr (fun s0 s2 s3 s6 s9 s12 s19 s22 => 
(qLeq X 21 s0 (.int .i32 2047) fun v11 =>
k [s0, s2, s3, s6, v11, s12, s19, s22] H : R))
noncomputable def r111_3 (k : KT R) : KT R := fun fr H => opn 8 fr (fun s0 s2 s3 s6 s9 s12 s19 s22 => 
(qLeq X 21 s0 (.int .i32 127) fun v8 =>
k [s0, s2, s3, v8, s9, s12, s19, s22] H : R))
noncomputable def r111_1 (k : KT R) : KT R := fun fr H => opn 8 fr (fun s0 s2 s3 s6 s9 s12 s19 s22 => 
(qLss X 21 s0 (.int .i32 0) fun v5 =>
k [s0, s2, v5, s6, s9, s12, s19, s22] H : R))
noncomputable def r111_0 (k : KT R) : KT R := fun fr H => opn 8 fr (fun s0 s2 s3 s6 s9 s12 s19 s22 => 
(k [s0, (.int .i64 0), s3, s6, s9, s12, s19, s22] H : R))
noncomputable def c111 (C : CallF) (l0 : List AV) (H : AH) (k : AV → AH → R) : R := opn 1 l0 (fun x0 => (qFn (fun kr => (r111_0 (qBl (fun k1 => (r111_1 (qCd (sel 2) (fun _ => (r111_2 kr)) (fun k2 => (r111_3 (qCd (sel 3) (fun _ => (r111_4 kr)) (fun k3 => (r111_5 (qCd (sel 4) (fun _ => (r111_6 kr)) (fun k4 => (r111_7 (qCd (sel 5) (fun _ => (r111_8 kr)) (fun k5 => (r111_9 (qCd (sel 6) (fun _ => (r111_10 kr)) (fun k6 => (r111_11 (qCd (sel 7) (fun _ => (r111_12 kr)) (fun k7 => k7) k6))) k5))) k4))) k3))) k2))) k1))) (r111_13 kr))))
(fun fr H => k (sel 1 fr) H) [x0, Aes.undef, Aes.undef, Aes.undef, Aes.undef, Aes.undef, Aes.undef, Aes.undef] H : R))
/- internal/bytealg.IndexRabinKarp[string] -/
noncomputable def r114_18 (k : KT R) : KT R := fun fr H => opn 13 fr (fun s0 s1 s4 s5 s6 s7 s8 s9 s10 s20 s39 s44 s77 => 
(k [s0, s1, (.int .i64 (-1)), s5, s6, s7, s8, s9, s10, s20, s39, s44, s77] H : R))
noncomputable def r114_17 (k : KT R) : KT R := fun fr H => opn 13 fr (fun s0 s1 s4 s5 s6 s7 s8 s9 s10 s20 s39 s44 s77 => 
(qSub X 3 s10 s7 fun v80 =>
k [s0, s1, v80, s5, s6, s7, s8, s9, s10, s20, s39, s44, s77] H : R))
noncomputable def r114_16 (k : KT R) : KT R := fun fr H => opn 13 fr (fun s0 s1 s4 s5 s6 s7 s8 s9 s10 s20 s39 s44 s77 => 
(qEql X 114 s8 s5 fun v67 =>
qG v67 true (fun k => k s0 H) H fun v69 H =>
qG v67 true (fun k => k s10 H) H fun v70 H =>
qG v67 true (fun k => k s7 H) H fun v71 H =>
qG v67 true (fun k => qSub X 3 v70 v71 fun v => k v H) H fun v72 H =>
qG v67 true (fun k => k s10 H) H fun v73 H =>
qG v67 true (fun k => qSlc Tryd.t9.desc 0 v69 (some v72) (some v73) none fun v => k v H) H fun v74 H =>
qG v67 true (fun k => k s1 H) H fun v75 H =>
qG v67 true (fun k => qEql X 9 v74 v75 fun v => k v H) H fun v76 H =>
qPick v67 v76 (.bool false) fun v77 =>
k [s0, s1, s4, s5, s6, s7, s8, s9, s10, s20, s39, s44, v77] H : R))
noncomputable def r114_15 (k : KT R) : KT R := fun fr H => opn 13 fr (fun s0 s1 s4 s5 s6 s7 s8 s9 s10 s20 s39 s44 s77 => 
(qAdd X 3 s10 (.int .i64 1) fun v64 =>
k [s0, s1, s4, s5, s6, s7, s8, s9, v64, s20, s39, s44, s77] H : R))
noncomputable def r114_14 (k : KT R) : KT R := fun fr H => opn 13 fr (fun s0 s1 s4 s5 s6 s7 s8 s9 s10 s20 s39 s44 s77 => 
(qSub X 3 s10 s7 fun v58 =>
qIx s0 v58 fun v59 =>
qConvI .u32 v59 fun v60 =>
qMul X 114 s6 v60 fun v61 =>
qSub X 114 s8 v61 fun v62 =>
k [s0, s1, s4, s5, s6, s7, v62, s9, s10, s20, s39, s44, s77] H : R))
noncomputable def r114_13 (k : KT R) : KT R := fun fr H => opn 13 fr (fun s0 s1 s4 s5 s6 s7 s8 s9 s10 s20 s39 s44 s77 => 
(qIx s0 s10 fun v50 =>
qConvI .u32 v50 fun v51 =>
qAdd X 114 s8 v51 fun v52 =>
k [s0, s1, s4, s5, s6, s7, v52, s9, s10, s20, s39, s44, s77] H : R))
noncomputable def r114_12 (k : KT R) : KT R := fun fr H => opn 13 fr (fun s0 s1 s4 s5 s6 s7 s8 s9 s10 s20 s39 s44 s77 => 
(qMul X 114 s8 (.int .u32 16777619) fun v46 =>
k [s0, s1, s4, s5, s6, s7, v46, s9, s10, s20, s39, s44, s77] H : R))
noncomputable def r114_11 (k : KT R) : KT R := fun fr H => opn 13 fr (fun s0 s1 s4 s5 s6 s7 s8 s9 s10 s20 s39 s44 s77 => 
(qLenS s0 fun v43 =>
qLss X 3 s10 v43 fun v44 =>
k [s0, s1, s4, s5, s6, s7, s8, s9, s10, s20, s39, v44, s77] H : R))
noncomputable def l114_5 (k1 : KT R) (kr : KT R) : KT R → KT R := fun k2 => (r114_11 (qCd (sel 11) (fun k5 => k5) (fun _ => k1) (qBl (fun k3 => (r114_12 (r114_13 (r114_14 (r114_15 (r114_16 (qCd (sel 12) (fun _ => (r114_17 kr)) (fun k4 => k4) k3))))))) k2)))
noncomputable def r114_10 (k : KT R) : KT R := fun fr H => opn 13 fr (fun s0 s1 s4 s5 s6 s7 s8 s9 s10 s20 s39 s44 s77 => 
(k [s0, s1, s4, s5, s6, s7, s8, s9, s7, s20, s39, s44, s77] H : R))
noncomputable def r114_9 (k : KT R) : KT R := fun fr H => opn 13 fr (fun s0 s1 s4 s5 s6 s7 s8 s9 s10 s20 s39 s44 s77 => 
(k [s0, s1, (.int .i64 0), s5, s6, s7, s8, s9, s10, s20, s39, s44, s77] H : R))
noncomputable def r114_8 (k : KT R) : KT R := fun fr H => opn 13 fr (fun s0 s1 s4 s5 s6 s7 s8 s9 s10 s20 s39 s44 s77 => 
(qEql X 114 s8 s5 fun v32 =>
qG v32 true (fun k => k s0 H) H fun v34 H =>
qG v32 true (fun k => k s7 H) H fun v35 H =>
qG v32 true (fun k => qSlc Tryd.t9.desc 0 v34 none (some v35) none fun v => k v H) H fun v36 H =>
qG v32 true (fun k => k s1 H) H fun v37 H =>
qG v32 true (fun k => qEql X 9 v36 v37 fun v => k v H) H fun v38 H =>
qPick v32 v38 (.bool false) fun v39 =>
k [s0, s1, s4, s5, s6, s7, s8, s9, s10, s20, v39, s44, s77] H : R))
noncomputable def r114_6 (k : KT R) : KT R := fun fr H => opn 13 fr (fun s0 s1 s4 s5 s6 s7 s8 s9 s10 s20 s39 s44 s77 => 
(qAdd X 3 s9 (.int .i64 1) fun v22 =>
k [s0, s1, s4, s5, s6, s7, s8, v22, s10, s20, s39, s44, s77] H : R))
noncomputable def r114_7 (k : KT R) : KT R := fun fr H => opn 13 fr (fun s0 s1 s4 s5 s6 s7 s8 s9 s10 s20 s39 s44 s77 => 
(qMul X 114 s8 (.int .u32 16777619) fun v24 =>
qIx s0 s9 fun v27 =>
qConvI .u32 v27 fun v28 =>
qAdd X 114 v24 v28 fun v29 =>
k [s0, s1, s4, s5, s6, s7, v29, s9, s10, s20, s39, s44, s77] H : R))
noncomputable def r114_5 (k : KT R) : KT R := fun fr H => opn 13 fr (fun s0 s1 s4 s5 s6 s7 s8 s9 s10 s20 s39 s44 s77 => 
(qLss X 3 s9 s7 fun v20 =>
k [s0, s1, s4, s5, s6, s7, s8, s9, s10, v20, s39, s44, s77] H : R))
noncomputable def l114_10 (k7 : KT R) : KT R → KT R := fun k8 => (r114_5 (qCd (sel 9) (fun k10 => k10) (fun _ => k7) (qBl (fun k9 => (r114_7 k9)) (r114_6 k8))))
noncomputable def r114_4 (k : KT R) : KT R := fun fr H => opn 13 fr (fun s0 s1 s4 s5 s6 s7 s8 s9 s10 s20 s39 s44 s77 => 
(k [s0, s1, s4, s5, s6, s7, s8, (.int .i64 0), s10, s20, s39, s44, s77] H : R))
noncomputable def r114_3 (k : KT R) : KT R := fun fr H => opn 13 fr (fun s0 s1 s4 s5 s6 s7 s8 s9 s10 s20 s39 s44 s77 => 
(k [s0, s1, s4, s5, s6, s7, (.int .u32 0), s9, s10, s20, s39, s44, s77] H : R))
noncomputable def r114_2 (k : KT R) : KT R := fun fr H => opn 13 fr (fun s0 s1 s4 s5 s6 s7 s8 s9 s10 s20 s39 s44 s77 => 
(qLenS s1 fun v17 =>
k [s0, s1, s4, s5, s6, v17, s8, s9, s10, s20, s39, s44, s77] H : R))
noncomputable def r114_1 (C : CallF) (k : KT R) : KT R := fun fr H => opn 13 fr (fun s0 s1 s4 s5 s6 s7 s8 s9 s10 s20 s39 s44 s77 => 
(qRes (C 116 [s1] H) fun v13 H =>
qExt v13 0 fun v14 =>
qExt v13 1 fun v15 =>
k [s0, s1, s4, v14, v15, s7, s8, s9, s10, s20, s39, s44, s77] H : R))
noncomputable def r114_0 (k : KT R) : KT R := fun fr H => opn 13 fr (fun s0 s1 s4 s5 s6 s7 s8 s9 s10 s20 s39 s44 s77 => 
(k [s0, s1, (.int .i64 0), s5, s6, s7, s8, s9, s10, s20, s39, s44, s77] H : R))
noncomputable def c114 (C : CallF) (l0 : List AV) (H : AH) (k : AV → AH → R) : R := opn 2 l0 (fun x0 x1 => (qFn (fun kr => (r114_0 (r114_1 C (r114_2 (r114_3 (r114_4 (qBl (fun k7 => (qLoop (l114_10 k7))) (r114_8 (qCd (sel 10) (fun _ => (r114_9 kr)) (fun k6 => k6) (r114_10 (qBl (fun k1 => (qLoop (l114_5 k1 kr))) (r114_18 kr))))))))))))
(fun fr H => k (sel 2 fr) H) [x0, x1, Aes.undef, Aes.undef, Aes.undef, Aes.undef, Aes.undef, Aes.undef, Aes.undef, Aes.undef, Aes.undef, Aes.undef, Aes.undef] H : R))
/- unicode.to -/
noncomputable def r115_6 (k : KT R) : KT R := fun fr H => opn 8 fr (fun s0 s1 s2 s6 s7 s8 s14 s19 => 
(k [s0, s1, s2, s1, (.bool false), s8, s14, s19] H : R))
noncomputable def r115_5 (C : CallF) (k : KT R) : KT R := fun fr H => opn 8 fr (fun s0 s1 s2 s6 s7 s8 s14 s19 => 
(qRes (C 118 [s0, s1, s8] H) fun v23 H =>
k [s0, s1, s2, v23, (.bool true), s8, s14, s19] H : R))
noncomputable def r115_4 (k : KT R) : KT R := fun fr H => opn 8 fr (fun s0 s1 s2 s6 s7 s8 s14 s19 => 
(qNeq X 129 s8 (.nilp) fun v19 =>
k [s0, s1, s2, s6, s7, s8, s14, v19] H : R))
noncomputable def r115_3 (C : CallF) (k : KT R) : KT R := fun fr H => opn 8 fr (fun s0 s1 s2 s6 s7 s8 s14 s19 => 
(qRes (C 117 [s1, s2] H) fun v17 H =>
k [s0, s1, s2, s6, s7, v17, s14, s19] H : R))
noncomputable def r115_2 (k : KT R) : KT R := fun fr H => opn 8 fr (fun s0 s1 s2 s6 s7 s8 s14 s19 => 
(k [s0, s1, s2, (.int .i32 65533), (.bool false), s8, s14, s19] H : R))
noncomputable def r115_1 (k : KT R) : KT R := fun fr H => opn 8 fr (fun s0 s1 s2 s6 s7 s8 s14 s19 => 
(qLss X 3 s0 (.int .i64 0) fun v10 =>
qG v10 false (fun k => k s0 H) H fun v12 H =>
qG v10 false (fun k => qLeq X 3 (.int .i64 3) v12 fun v => k v H) H fun v13 H =>
qPick v10 (.bool true) v13 fun v14 =>
k [s0, s1, s2, s6, s7, s8, v14, s19] H : R))
noncomputable def r115_0 (k : KT R) : KT R := fun fr H => opn 8 fr (fun s0 s1 s2 s6 s7 s8 s14 s19 => 
(k [s0, s1, s2, (.int .i32 0), (.bool false), s8, s14, s19] H : R))
noncomputable def c115 (C : CallF) (l0 : List AV) (H : AH) (k : AV → AH → R) : R := opn 3 l0 (fun x0 x1 x2 => (qFn (fun kr => (r115_0 (r115_1 (qCd (sel 6) (fun _ => (r115_2 kr)) (fun k2 => k2) (r115_3 C (r115_4 (qCd (sel 7) (fun _ => (r115_5 C kr)) (fun k1 => k1) (r115_6 kr))))))))
(fun fr H => k (.tup [(sel 3 fr), (sel 4 fr)]) H) [x0, x1, x2, Aes.undef, Aes.undef, Aes.undef, Aes.undef, Aes.undef] H : R))
/- internal/bytealg.hashStr[string] -/
noncomputable def r116_13 (k : KT R) : KT R := fun fr H => opn 11 fr (fun s0 s2 s3 s4 s5 s6 s7 s8 s12 s25 s30 => 
(k [s0, s4, s6, s4, s5, s6, s7, s8, s12, s25, s30] H : R))
noncomputable def r116_9 (k : KT R) : KT R := fun fr H => opn 11 fr (fun s0 s2 s3 s4 s5 s6 s7 s8 s12 s25 s30 => 
(qO (binop X .shr 3 s8 (.int .u64 1)) fun v27 =>
k [s0, s2, s3, s4, s5, s6, s7, v27, s12, s25, s30] H : R))
noncomputable def r116_12 (k : KT R) : KT R := fun fr H => opn 11 fr (fun s0 s2 s3 s4 s5 s6 s7 s8 s12 s25 s30 => 
(qMul X 114 s7 s7 fun v36 =>
k [s0, s2, s3, s4, s5, s6, v36, s8, s12, s25, s30] H : R))
noncomputable def r116_11 (k : KT R) : KT R := fun fr H => opn 11 fr (fun s0 s2 s3 s4 s5 s6 s7 s8 s12 s25 s30 => 
(qMul X 114 s6 s7 fun v33 =>
k [s0, s2, s3, s4, s5, v33, s7, s8, s12, s25, s30] H : R))
noncomputable def r116_10 (k : KT R) : KT R := fun fr H => opn 11 fr (fun s0 s2 s3 s4 s5 s6 s7 s8 s12 s25 s30 => 
(qO (binop X .and 3 s8 (.int .i64 1)) fun v29 =>
qNeq X 3 v29 (.int .i64 0) fun v30 =>
k [s0, s2, s3, s4, s5, s6, s7, s8, s12, s25, v30] H : R))
noncomputable def r116_8 (k : KT R) : KT R := fun fr H => opn 11 fr (fun s0 s2 s3 s4 s5 s6 s7 s8 s12 s25 s30 => 
(qGtr X 3 s8 (.int .i64 0) fun v25 =>
k [s0, s2, s3, s4, s5, s6, s7, s8, s12, v25, s30] H : R))
noncomputable def l116_5 (k1 : KT R) : KT R → KT R := fun k2 => (r116_8 (qCd (sel 9) (fun k5 => k5) (fun _ => k1) (qBl (fun k3 => (r116_10 (qCd (sel 10) (fun k4 => (r116_11 k4)) (fun k4 => k4) (r116_12 k3)))) (r116_9 k2))))
noncomputable def r116_7 (k : KT R) : KT R := fun fr H => opn 11 fr (fun s0 s2 s3 s4 s5 s6 s7 s8 s12 s25 s30 => 
(qLenS s0 fun v23 =>
k [s0, s2, s3, s4, s5, s6, s7, v23, s12, s25, s30] H : R))
noncomputable def r116_6 (k : KT R) : KT R := fun fr H => opn 11 fr (fun s0 s2 s3 s4 s5 s6 s7 s8 s12 s25 s30 => 
(k [s0, s2, s3, s4, s5, (.int .u32 1), (.int .u32 16777619), s8, s12, s25, s30] H : R))
noncomputable def r116_4 (k : KT R) : KT R := fun fr H => opn 11 fr (fun s0 s2 s3 s4 s5 s6 s7 s8 s12 s25 s30 => 
(qAdd X 3 s5 (.int .i64 1) fun v14 =>
k [s0, s2, s3, s4, v14, s6, s7, s8, s12, s25, s30] H : R))
noncomputable def r116_5 (k : KT R) : KT R := fun fr H => opn 11 fr (fun s0 s2 s3 s4 s5 s6 s7 s8 s12 s25 s30 => 
(qMul X 114 s4 (.int .u32 16777619) fun v16 =>
qIx s0 s5 fun v19 =>
qConvI .u32 v19 fun v20 =>
qAdd X 114 v16 v20 fun v21 =>
k [s0, s2, s3, v21, s5, s6, s7, s8, s12, s25, s30] H : R))
noncomputable def r116_3 (k : KT R) : KT R := fun fr H => opn 11 fr (fun s0 s2 s3 s4 s5 s6 s7 s8 s12 s25 s30 => 
(qLenS s0 fun v11 =>
qLss X 3 s5 v11 fun v12 =>
k [s0, s2, s3, s4, s5, s6, s7, s8, v12, s25, s30] H : R))
noncomputable def l116_9 (k6 : KT R) : KT R → KT R := fun k7 => (r116_3 (qCd (sel 8) (fun k9 => k9) (fun _ => k6) (qBl (fun k8 => (r116_5 k8)) (r116_4 k7))))
noncomputable def r116_2 (k : KT R) : KT R := fun fr H => opn 11 fr (fun s0 s2 s3 s4 s5 s6 s7 s8 s12 s25 s30 => 
(k [s0, s2, s3, s4, (.int .i64 0), s6, s7, s8, s12, s25, s30] H : R))
noncomputable def r116_1 (k : KT R) : KT R := fun fr H => opn 11 fr (fun s0 s2 s3 s4 s5 s6 s7 s8 s12 s25 s30 => 
(k [s0, s2, s3, (.int .u32 0), s5, s6, s7, s8, s12, s25, s30] H : R))
noncomputable def r116_0 (k : KT R) : KT R := fun fr H => opn 11 fr (fun s0 s2 s3 s4 s5 s6 s7 s8 s12 s25 s30 => 
(k [s0, (.int .u32 0), (.int .u32 0), s4, s5, s6, s7, s8, s12, s25, s30] H : R))
noncomputable def c116 (C : CallF) (l0 : List AV) (H : AH) (k : AV → AH → R) : R := opn 1 l0 (fun x0 => (qFn (fun kr => (r116_0 (r116_1 (r116_2 (qBl (fun k6 => (qLoop (l116_9 k6))) (r116_6 (r116_7 (qBl (fun k1 => (qLoop (l116_5 k1))) (r116_13 kr)))))))))
(fun fr H => k (.tup [(sel 1 fr), (sel 2 fr)]) H) [x0, Aes.undef, Aes.undef, Aes.undef, Aes.undef, Aes.undef, Aes.undef, Aes.undef, Aes.undef, Aes.undef, Aes.undef] H : R))
/- unicode.lookupCaseRange -/
noncomputable def r117_11 (k : KT R) : KT R := fun fr H => opn 10 fr (fun s0 s1 s4 s5 s6 s7 s8 s13 s38 s46 => 
(k [s0, s1, (.nilp), s5, s6, s7, s8, s13, s38, s46] H : R))
noncomputable def r117_9 (k : KT R) : KT R := fun fr H => opn 10 fr (fun s0 s1 s4 s5 s6 s7 s8 s13 s38 s46 => 
(k [s0, s1, s4, s5, s7, s7, s8, s13, s38, s46] H : R))
noncomputable def r117_10 (k : KT R) : KT R := fun fr H => opn 10 fr (fun s0 s1 s4 s5 s6 s7 s8 s13 s38 s46 => 
(qAdd X 3 s7 (.int .i64 1) fun v49 =>
k [s0, s1, s4, v49, s6, s7, s8, s13, s38, s46] H : R))
noncomputable def r117_8 (k : KT R) : KT R := fun fr H => opn 10 fr (fun s0 s1 s4 s5 s6 s7 s8 s13 s38 s46 => 
(qNc s8 fun v42 =>
qFa 0 v42 fun v43 =>
qLd v43 H fun v44 =>
qConvI .i32 v44 fun v45 =>
qLss X 21 s0 v45 fun v46 =>
k [s0, s1, s4, s5, s6, s7, s8, s13, s38, v46] H : R))
noncomputable def r117_7 (k : KT R) : KT R := fun fr H => opn 10 fr (fun s0 s1 s4 s5 s6 s7 s8 s13 s38 s46 => 
(k [s0, s1, s8, s5, s6, s7, s8, s13, s38, s46] H : R))
noncomputable def r117_6 (k : KT R) : KT R := fun fr H => opn 10 fr (fun s0 s1 s4 s5 s6 s7 s8 s13 s38 s46 => 
(qNc s8 fun v24 =>
qFa 0 v24 fun v25 =>
qLd v25 H fun v26 =>
qConvI .i32 v26 fun v27 =>
qLeq X 21 v27 s0 fun v29 =>
qG v29 true (fun k => k s0 H) H fun v31 H =>
qG v29 true (fun k => k s8 H) H fun v32 H =>
qG v29 true (fun k => qNc v32 fun v => k v H) H fun v33 H =>
qG v29 true (fun k => qFa 1 v33 fun v => k v H) H fun v34 H =>
qG v29 true (fun k => qLd v34 H fun v => k v H) H fun v35 H =>
qG v29 true (fun k => qConvI .i32 v35 fun v => k v H) H fun v36 H =>
qG v29 true (fun k => qLeq X 21 v31 v36 fun v => k v H) H fun v37 H =>
qPick v29 v37 (.bool false) fun v38 =>
k [s0, s1, s4, s5, s6, s7, s8, s13, v38, s46] H : R))
noncomputable def r117_5 (k : KT R) : KT R := fun fr H => opn 10 fr (fun s0 s1 s4 s5 s6 s7 s8 s13 s38 s46 => 
(qIa 5 s1 s7 fun v22 =>
k [s0, s1, s4, s5, s6, s7, v22, s13, s38, s46] H : R))
noncomputable def r117_4 (k : KT R) : KT R := fun fr H => opn 10 fr (fun s0 s1 s4 s5 s6 s7 s8 s13 s38 s46 => 
(qAdd X 3 s5 s6 fun v16 =>
qConvI .u64 v16 fun v17 =>
qO (binop X .shr 49 v17 (.int .u64 1)) fun v18 =>
qConvI .i64 v18 fun v19 =>
k [s0, s1, s4, s5, s6, v19, s8, s13, s38, s46] H : R))
noncomputable def r117_3 (k : KT R) : KT R := fun fr H => opn 10 fr (fun s0 s1 s4 s5 s6 s7 s8 s13 s38 s46 => 
(qLss X 3 s5 s6 fun v13 =>
k [s0, s1, s4, s5, s6, s7, s8, v13, s38, s46] H : R))
noncomputable def l117_6 (k1 : KT R) (kr : KT R) : KT R → KT R := fun k2 => (r117_3 (qCd (sel 7) (fun k6 => k6) (fun _ => k1) (qBl (fun k3 => (r117_4 (r117_5 (r117_6 (qCd (sel 8) (fun _ => (r117_7 kr)) (fun k5 => k5) (r117_8 (qCd (sel 9) (fun k4 => (r117_9 k4)) (fun k4 => (r117_10 k4)) k3))))))) k2)))
noncomputable def r117_2 (k : KT R) : KT R := fun fr H => opn 10 fr (fun s0 s1 s4 s5 s6 s7 s8 s13 s38 s46 => 
(qLenL s1 fun v10 =>
k [s0, s1, s4, s5, v10, s7, s8, s13, s38, s46] H : R))
noncomputable def r117_1 (k : KT R) : KT R := fun fr H => opn 10 fr (fun s0 s1 s4 s5 s6 s7 s8 s13 s38 s46 => 
(k [s0, s1, s4, (.int .i64 0), s6, s7, s8, s13, s38, s46] H : R))
noncomputable def r117_0 (k : KT R) : KT R := fun fr H => opn 10 fr (fun s0 s1 s4 s5 s6 s7 s8 s13 s38 s46 => 
(k [s0, s1, (.nilp), s5, s6, s7, s8, s13, s38, s46] H : R))
noncomputable def c117 (C : CallF) (l0 : List AV) (H : AH) (k : AV → AH → R) : R := opn 2 l0 (fun x0 x1 => (qFn (fun kr => (r117_0 (r117_1 (r117_2 (qBl (fun k1 => (qLoop (l117_6 k1 kr))) (r117_11 kr))))))
(fun fr H => k (sel 2 fr) H) [x0, x1, Aes.undef, Aes.undef, Aes.undef, Aes.undef, Aes.undef, Aes.undef, Aes.undef, Aes.undef] H : R))
/- unicode.convertCase -/
noncomputable def r118_4 (k : KT R) : KT R := fun fr H => opn 6 fr (fun s0 s1 s2 s6 s7 s15 => 
(qAdd X 21 s1 s7 fun v36 =>
k [s0, s1, s2, v36, s7, s15] H : R))
noncomputable def r118_3 (k : KT R) : KT R := fun fr H => opn 6 fr (fun s0 s1 s2 s6 s7 s15 => 
(qNc s2 fun v17 =>
qFa 0 v17 fun v18 =>
qLd v18 H fun v19 =>
qConvI .i32 v19 fun v20 =>
qNc s2 fun v23 =>
qFa 0 v23 fun v24 =>
qLd v24 H fun v25 =>
qConvI .i32 v25 fun v26 =>
qSub X 21 s1 v26 fun v27 =>
qO (binop X .andNot 21 v27 (.int .i32 1)) fun v28 =>
qO (binop X .and 3 s0 (.int .i64 1)) fun v30 =>
qConvI .i32 v30 fun v31 =>
qO (binop X .or 21 v28 v31) fun v32 =>
qAdd X 21 v20 v32 fun v33 =>
k [s0, s1, s2, v33, s7, s15] H : R))
noncomputable def r118_2 (k : KT R) : KT R := fun fr H => opn 6 fr (fun s0 s1 s2 s6 s7 s15 => 
(qGtr X 21 s7 (.int .i32 1114111) fun v15 =>
k [s0, s1, s2, s6, s7, v15] H : R))
noncomputable def r118_1 (k : KT R) : KT R := fun fr H => opn 6 fr (fun s0 s1 s2 s6 s7 s15 => 
(qNc s2 fun v10 =>
qFa 2 v10 fun v11 =>
qIaA 3 1 v11 s0 fun v12 =>
qLd v12 H fun v13 =>
k [s0, s1, s2, s6, v13, s15] H : R))
noncomputable def r118_0 (k : KT R) : KT R := fun fr H => opn 6 fr (fun s0 s1 s2 s6 s7 s15 => 
(k [s0, s1, s2, (.int .i32 0), s7, s15] H : R))
noncomputable def c118 (C : CallF) (l0 : List AV) (H : AH) (k : AV → AH → R) : R := opn 3 l0 (fun x0 x1 x2 => (qFn (fun kr => (r118_0 (r118_1 (r118_2 (qCd (sel 5) (fun _ => (r118_3 kr)) (fun k1 => k1) (r118_4 kr))))))
(fun fr H => k (sel 3 fr) H) [x0, x1, x2, Aes.undef, Aes.undef, Aes.undef] H : R))
end
theorem e58 {R : Type} [Mon R] : hFn (R := R) X 58 Tryd.f58 2 [0, 1, 4, 5, 6, 7, 8, 9, 14, 18, 27, 36, 50, 53, 62, 98] = c58 := by kernel_rfl
theorem xf58 : X.fn 58 = some Tryd.f58 := by kernel_rfl
theorem e59 {R : Type} [Mon R] : hFn (R := R) X 59 Tryd.f59 1 [0, 2] = c59 := by kernel_rfl
theorem xf59 : X.fn 59 = some Tryd.f59 := by kernel_rfl
theorem e60 {R : Type} [Mon R] : hFn (R := R) X 60 Tryd.f60 1 [0, 2] = c60 := by kernel_rfl
theorem xf60 : X.fn 60 = some Tryd.f60 := by kernel_rfl
theorem e61 {R : Type} [Mon R] : hFn (R := R) X 61 Tryd.f61 1 [0, 2, 3, 4, 6, 8, 10, 12] = c61 := by kernel_rfl
theorem xf61 : X.fn 61 = some Tryd.f61 := by kernel_rfl
theorem e62 {R : Type} [Mon R] : hFn (R := R) X 62 Tryd.f62 2 [0, 1, 4] = c62 := by kernel_rfl
theorem xf62 : X.fn 62 = some Tryd.f62 := by kernel_rfl
theorem e63 {R : Type} [Mon R] : hFn (R := R) X 63 Tryd.f63 3 [0, 1, 2, 6] = c63 := by kernel_rfl
theorem xf63 : X.fn 63 = some Tryd.f63 := by kernel_rfl
theorem e64 {R : Type} [Mon R] : hFn (R := R) X 64 Tryd.f64 1 [0, 2] = c64 := by kernel_rfl
theorem xf64 : X.fn 64 = some Tryd.f64 := by kernel_rfl
theorem e65 {R : Type} [Mon R] : hFn (R := R) X 65 Tryd.f65 1 [0, 2] = c65 := by kernel_rfl
theorem xf65 : X.fn 65 = some Tryd.f65 := by kernel_rfl
theorem e67 {R : Type} [Mon R] : hFn (R := R) X 67 Tryd.f67 1 [0, 2, 3, 4, 5, 9, 21, 46] = c67 := by kernel_rfl
theorem xf67 : X.fn 67 = some Tryd.f67 := by kernel_rfl
theorem e68 {R : Type} [Mon R] : hFn (R := R) X 68 Tryd.f68 1 [0, 2, 3, 19] = c68 := by kernel_rfl
theorem xf68 : X.fn 68 = some Tryd.f68 := by kernel_rfl
theorem e69 {R : Type} [Mon R] : hFn (R := R) X 69 Tryd.f69 2 [0, 1, 4, 7] = c69 := by kernel_rfl
theorem xf69 : X.fn 69 = some Tryd.f69 := by kernel_rfl
theorem e70 {R : Type} [Mon R] : hFn (R := R) X 70 Tryd.f70 2 [0, 1, 4, 5, 6, 12, 21, 31] = c70 := by kernel_rfl
theorem xf70 : X.fn 70 = some Tryd.f70 := by kernel_rfl
theorem e71 {R : Type} [Mon R] : hFn (R := R) X 71 Tryd.f71 2 [0, 1, 4, 5, 9] = c71 := by kernel_rfl
theorem xf71 : X.fn 71 = some Tryd.f71 := by kernel_rfl
theorem e72 {R : Type} [Mon R] : hFn (R := R) X 72 Tryd.f72 2 [0, 1, 4] = c72 := by kernel_rfl
theorem xf72 : X.fn 72 = some Tryd.f72 := by kernel_rfl
theorem e73 {R : Type} [Mon R] : hFn (R := R) X 73 Tryd.f73 1 [0, 2, 3, 5, 7, 8, 9, 10, 20] = c73 := by kernel_rfl
theorem xf73 : X.fn 73 = some Tryd.f73 := by kernel_rfl
theorem e74 {R : Type} [Mon R] : hFn (R := R) X 74 Tryd.f74 1 [0, 2, 3, 4, 8, 16, 19, 30] = c74 := by kernel_rfl
theorem xf74 : X.fn 74 = some Tryd.f74 := by kernel_rfl
theorem e76 {R : Type} [Mon R] : hFn (R := R) X 76 Tryd.f76 1 [0, 2, 3, 10] = c76 := by kernel_rfl
theorem xf76 : X.fn 76 = some Tryd.f76 := by kernel_rfl
theorem e77 {R : Type} [Mon R] : hFn (R := R) X 77 Tryd.f77 1 [0, 2] = c77 := by kernel_rfl
theorem xf77 : X.fn 77 = some Tryd.f77 := by kernel_rfl
theorem e79 {R : Type} [Mon R] : hFn (R := R) X 79 Tryd.f79 2 [0, 1, 4, 7] = c79 := by kernel_rfl
theorem xf79 : X.fn 79 = some Tryd.f79 := by kernel_rfl
theorem e80 {R : Type} [Mon R] : hFn (R := R) X 80 Tryd.f80 1 [0, 2] = c80 := by kernel_rfl
theorem xf80 : X.fn 80 = some Tryd.f80 := by kernel_rfl
theorem e81 {R : Type} [Mon R] : hFn (R := R) X 81 Tryd.f81 1 [0, 2, 3, 5, 6, 9, 13, 14, 15, 20] = c81 := by kernel_rfl
theorem xf81 : X.fn 81 = some Tryd.f81 := by kernel_rfl
theorem e82 {R : Type} [Mon R] : hFn (R := R) X 82 Tryd.f82 2 [0, 1, 4] = c82 := by kernel_rfl
theorem xf82 : X.fn 82 = some Tryd.f82 := by kernel_rfl
theorem e83 {R : Type} [Mon R] : hFn (R := R) X 83 Tryd.f83 2 [0, 1, 4, 5, 6, 7, 12, 17, 23, 32, 46] = c83 := by kernel_rfl
theorem xf83 : X.fn 83 = some Tryd.f83 := by kernel_rfl
theorem e84 {R : Type} [Mon R] : hFn (R := R) X 84 Tryd.f84 1 [0, 2, 3, 10, 23] = c84 := by kernel_rfl
theorem xf84 : X.fn 84 = some Tryd.f84 := by kernel_rfl
theorem e85 {R : Type} [Mon R] : hFn (R := R) X 85 Tryd.f85 4 [0, 1, 2, 3, 8, 9, 10, 11, 13, 15, 20, 36, 41] = c85 := by kernel_rfl
theorem xf85 : X.fn 85 = some Tryd.f85 := by kernel_rfl
theorem e86 {R : Type} [Mon R] : hFn (R := R) X 86 Tryd.f86 4 [0, 1, 2, 3, 8, 9, 10, 11, 12, 14, 15, 22, 28, 36, 51, 52, 53, 54, 77, 78, 79] = c86 := by kernel_rfl
theorem xf86 : X.fn 86 = some Tryd.f86 := by kernel_rfl
theorem e88 {R : Type} [Mon R] : hFn (R := R) X 88 Tryd.f88 2 [0, 1, 4] = c88 := by kernel_rfl
theorem xf88 : X.fn 88 = some Tryd.f88 := by kernel_rfl
theorem e89 {R : Type} [Mon R] : hFn (R := R) X 89 Tryd.f89 2 [0, 1, 4, 13] = c89 := by kernel_rfl
theorem xf89 : X.fn 89 = some Tryd.f89 := by kernel_rfl
theorem e90 {R : Type} [Mon R] : hFn (R := R) X 90 Tryd.f90 1 [0, 2, 3, 4, 5, 9, 16] = c90 := by kernel_rfl
theorem xf90 : X.fn 90 = some Tryd.f90 := by kernel_rfl
theorem e91 {R : Type} [Mon R] : hFn (R := R) X 91 Tryd.f91 2 [0, 1, 4, 7, 12] = c91 := by kernel_rfl
theorem xf91 : X.fn 91 = some Tryd.f91 := by kernel_rfl
theorem e92 {R : Type} [Mon R] : hFn (R := R) X 92 Tryd.f92 2 [0, 1, 4, 5, 6, 9, 18] = c92 := by kernel_rfl
theorem xf92 : X.fn 92 = some Tryd.f92 := by kernel_rfl
theorem e95 {R : Type} [Mon R] : hFn (R := R) X 95 Tryd.f95 2 [0, 1, 4, 5, 11, 25, 50] = c95 := by kernel_rfl
theorem xf95 : X.fn 95 = some Tryd.f95 := by kernel_rfl
theorem e96 {R : Type} [Mon R] : hFn (R := R) X 96 Tryd.f96 1 [0, 2, 3, 4, 5, 6, 7, 8, 9, 10, 14, 21, 31, 33, 41, 52, 57, 70] = c96 := by kernel_rfl
theorem xf96 : X.fn 96 = some Tryd.f96 := by kernel_rfl
theorem e97 {R : Type} [Mon R] : hFn (R := R) X 97 Tryd.f97 2 [0, 1, 4, 5, 6, 7, 9, 18, 25, 43] = c97 := by kernel_rfl
theorem xf97 : X.fn 97 = some Tryd.f97 := by kernel_rfl
theorem e98 {R : Type} [Mon R] : hFn (R := R) X 98 Tryd.f98 2 [0, 1, 4, 5, 6, 9, 15, 24] = c98 := by kernel_rfl
theorem xf98 : X.fn 98 = some Tryd.f98 := by kernel_rfl
theorem e99 {R : Type} [Mon R] : hFn (R := R) X 99 Tryd.f99 2 [0, 1, 4] = c99 := by kernel_rfl
theorem xf99 : X.fn 99 = some Tryd.f99 := by kernel_rfl
theorem e100 {R : Type} [Mon R] : hFn (R := R) X 100 Tryd.f100 1 [0, 2, 3, 10] = c100 := by kernel_rfl
theorem xf100 : X.fn 100 = some Tryd.f100 := by kernel_rfl
theorem e102 {R : Type} [Mon R] : hFn (R := R) X 102 Tryd.f102 2 [0, 1, 4] = c102 := by kernel_rfl
theorem xf102 : X.fn 102 = some Tryd.f102 := by kernel_rfl
theorem e103 {R : Type} [Mon R] : hFn (R := R) X 103 Tryd.f103 2 [0, 1, 4] = c103 := by kernel_rfl
theorem xf103 : X.fn 103 = some Tryd.f103 := by kernel_rfl
theorem e104 {R : Type} [Mon R] : hFn (R := R) X 104 Tryd.f104 2 [0, 1, 4, 5, 6, 7, 8, 9, 11, 12, 14, 15, 16, 28, 30, 44, 56, 65, 68, 69, 70, 76, 78] = c104 := by kernel_rfl
theorem xf104 : X.fn 104 = some Tryd.f104 := by kernel_rfl
theorem e105 {R : Type} [Mon R] : hFn (R := R) X 105 Tryd.f105 1 [0, 2, 4, 10] = c105 := by kernel_rfl
theorem xf105 : X.fn 105 = some Tryd.f105 := by kernel_rfl
theorem e106 {R : Type} [Mon R] : hFn (R := R) X 106 Tryd.f106 1 [0, 2, 4, 6] = c106 := by kernel_rfl
theorem xf106 : X.fn 106 = some Tryd.f106 := by kernel_rfl
theorem e111 {R : Type} [Mon R] : hFn (R := R) X 111 Tryd.f111 1 [0, 2, 3, 6, 9, 12, 19, 22] = c111 := by kernel_rfl
theorem xf111 : X.fn 111 = some Tryd.f111 := by kernel_rfl
theorem e114 {R : Type} [Mon R] : hFn (R := R) X 114 Tryd.f114 2 [0, 1, 4, 5, 6, 7, 8, 9, 10, 20, 39, 44, 77] = c114 := by kernel_rfl
theorem xf114 : X.fn 114 = some Tryd.f114 := by kernel_rfl
theorem e115 {R : Type} [Mon R] : hFn (R := R) X 115 Tryd.f115 3 [0, 1, 2, 6, 7, 8, 14, 19] = c115 := by kernel_rfl
theorem xf115 : X.fn 115 = some Tryd.f115 := by kernel_rfl
theorem e116 {R : Type} [Mon R] : hFn (R := R) X 116 Tryd.f116 1 [0, 2, 3, 4, 5, 6, 7, 8, 12, 25, 30] = c116 := by kernel_rfl
theorem xf116 : X.fn 116 = some Tryd.f116 := by kernel_rfl
theorem e117 {R : Type} [Mon R] : hFn (R := R) X 117 Tryd.f117 2 [0, 1, 4, 5, 6, 7, 8, 13, 38, 46] = c117 := by kernel_rfl
theorem xf117 : X.fn 117 = some Tryd.f117 := by kernel_rfl
theorem e118 {R : Type} [Mon R] : hFn (R := R) X 118 Tryd.f118 3 [0, 1, 2, 6, 7, 15] = c118 := by kernel_rfl
theorem xf118 : X.fn 118 = some Tryd.f118 := by kernel_rfl
end T
