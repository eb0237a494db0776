import Derived.Test.YtocngckbmjfddaaLitRb2
set_option linter.all false
set_option maxRecDepth 100000
set_option linter.unusedVariables false
open Go Go.Aes Go.Proofs
namespace T
section
variable {R : Type} [Mon R]
/- refectory/refectoryref01.bytes -/
noncomputable def r162_7 (k : KT R) : KT R := fun fr H => opn 5 fr (fun s0 s2 s3 s10 s23 => 
(qO (binop X .shr 3 s0 (.int .u64 18)) fun v42 =>
qO (binop X .or 3 (.int .i64 240) v42) fun v43 =>
qConvI .u8 v43 fun v44 =>
qO (binop X .shr 3 s0 (.int .u64 12)) fun v46 =>
qO (binop X .and 3 v46 (.int .i64 63)) fun v47 =>
qO (binop X .or 3 (.int .i64 128) v47) fun v48 =>
qConvI .u8 v48 fun v49 =>
qO (binop X .shr 3 s0 (.int .u64 6)) fun v51 =>
qO (binop X .and 3 v51 (.int .i64 63)) fun v52 =>
qO (binop X .or 3 (.int .i64 128) v52) fun v53 =>
qConvI .u8 v53 fun v54 =>
qO (binop X .and 3 s0 (.int .i64 63)) fun v56 =>
qO (binop X .or 3 (.int .i64 128) v56) fun v57 =>
qConvI .u8 v57 fun v58 =>
qRows z5 4 [(0, v44), (1, v49), (2, v54), (3, v58)] fun v59 =>
qBstr v59 H fun v60 =>
k [s0, v60, s3, s10, s23] H : R))
noncomputable def r162_2 (k : KT R) : KT R := fun fr H => opn 5 fr (fun s0 s2 s3 s10 s23 => 
(qConvI .u8 s0 fun v7 =>
qRows z5 1 [(0, v7)] fun v8 =>
qBstr v8 H fun v9 =>
k [s0, v9, s3, s10, s23] H : R))
noncomputable def r162_4 (k : KT R) : KT R := fun fr H => opn 5 fr (fun s0 s2 s3 s10 s23 => 
(qO (binop X .shr 3 s0 (.int .u64 6)) fun v14 =>
qO (binop X .or 3 (.int .i64 192) v14) fun v15 =>
qConvI .u8 v15 fun v16 =>
qO (binop X .and 3 s0 (.int .i64 63)) fun v18 =>
qO (binop X .or 3 (.int .i64 128) v18) fun v19 =>
qConvI .u8 v19 fun v20 =>
qRows z5 2 [(0, v16), (1, v20)] fun v21 =>
qBstr v21 H fun v22 =>
k [s0, v22, s3, s10, s23] H : R))
noncomputable def r162_6 (k : KT R) : KT R := fun fr H => opn 5 fr (fun s0 s2 s3 s10 s23 => 
(qO (binop X .shr 3 s0 (.int .u64 12)) fun v27 =>
qO (binop X .or 3 (.int .i64 224) v27) fun v28 =>
qConvI .u8 v28 fun v29 =>
qO (binop X .shr 3 s0 (.int .u64 6)) fun v31 =>
qO (binop X .and 3 v31 (.int .i64 63)) fun v32 =>
qO (binop X .or 3 (.int .i64 128) v32) fun v33 =>
qConvI .u8 v33 fun v34 =>
qO (binop X .and 3 s0 (.int .i64 63)) fun v36 =>
qO (binop X .or 3 (.int .i64 128) v36) fun v37 =>
qConvI .u8 v37 fun v38 =>
qRows z5 3 [(0, v29), (1, v34), (2, v38)] fun v39 =>
qBstr v39 H fun v40 =>
k [s0, v40, s3, s10, s23] H : R))
noncomputable def r162_5 (k : KT R) : KT R := fun fr H => opn 5 fr (fun s0 s2 s3 s10 s23 => 
(qLss X 3 s0 (.int .i64 65536) fun v25 =>
k [s0, s2, s3, s10, v25] H : R))
noncomputable def r162_3 (k : KT R) : KT R := fun fr H => opn 5 fr (fun s0 s2 s3 s10 s23 => 
(qLss X 3 s0 (.int .i64 2048) fun v12 =>
k [s0, s2, s3, v12, s23] H : R))
noncomputable def r162_1 (k : KT R) : KT R := fun fr H => opn 5 fr (fun s0 s2 s3 s10 s23 => 
(qLss X 3 s0 (.int .i64 128) fun v5 =>
k [s0, s2, v5, s10, s23] H : R))
noncomputable def r162_0 (k : KT R) : KT R := fun fr H => opn 5 fr (fun s0 s2 s3 s10 s23 => 
(k [s0, (.str []), s3, s10, s23] H : R))
noncomputable def c162 (C : CallF) (l0 : List AV) (H : AH) (k : AV → AH → R) : R := opn 1 l0 (fun x0 => (qFn (fun kr => (r162_0 (qBl (fun k1 => (r162_1 (qCd (sel 2) (fun _ => (r162_2 kr)) (fun k2 => (r162_3 (qCd (sel 3) (fun _ => (r162_4 kr)) (fun k3 => (r162_5 (qCd (sel 4) (fun _ => (r162_6 kr)) (fun k4 => k4) k3))) k2))) k1))) (r162_7 kr))))
(fun fr H => k (sel 1 fr) H) [x0, undef, undef, undef, undef] H : R))
/- refectory/value.pairs -/
noncomputable def r163_15 (k : KT R) : KT R := fun fr H => opn 19 fr (fun s0 s1 s2 s3 s4 s5 s6 s7 s8 s9 s15 s16 s17 s18 s23 s24 s25 s71 s77 => 
(k [s0, s1, s2, s3, (.bool true), s5, s6, s7, s8, s9, s15, s16, s17, s18, s23, s24, s25, s71, s77] H : R))
noncomputable def r163_14 (k : KT R) : KT R := fun fr H => opn 19 fr (fun s0 s1 s2 s3 s4 s5 s6 s7 s8 s9 s15 s16 s17 s18 s23 s24 s25 s71 s77 => 
(qAdd X 3 s17 (.int .i64 1) fun v78 =>
k [s0, s1, s2, s3, s4, s5, s6, s7, s8, s9, s15, s16, v78, s18, s23, s24, s25, s71, s77] H : R))
noncomputable def r163_13 (k : KT R) : KT R := fun fr H => opn 19 fr (fun s0 s1 s2 s3 s4 s5 s6 s7 s8 s9 s15 s16 s17 s18 s23 s24 s25 s71 s77 => 
(k [s0, s1, s2, s3, (.bool false), s5, s6, s7, s8, s9, s15, s16, s17, s18, s23, s24, s25, s71, s77] H : R))
noncomputable def r163_12 (k : KT R) : KT R := fun fr H => opn 19 fr (fun s0 s1 s2 s3 s4 s5 s6 s7 s8 s9 s15 s16 s17 s18 s23 s24 s25 s71 s77 => 
(qNot s8 fun v77 =>
k [s0, s1, s2, s3, s4, s5, s6, s7, s8, s9, s15, s16, s17, s18, s23, s24, s25, s71, v77] H : R))
noncomputable def r163_11 (k : KT R) : KT R := fun fr H => opn 19 fr (fun s0 s1 s2 s3 s4 s5 s6 s7 s8 s9 s15 s16 s17 s18 s23 s24 s25 s71 s77 => 
(qAdd X 3 s24 (.int .i64 1) fun v75 =>
k [s0, s1, s2, s3, s4, s5, s6, s7, s8, s9, s15, s16, s17, s18, s23, v75, s25, s71, s77] H : R))
noncomputable def r163_10 (k : KT R) : KT R := fun fr H => opn 19 fr (fun s0 s1 s2 s3 s4 s5 s6 s7 s8 s9 s15 s16 s17 s18 s23 s24 s25 s71 s77 => 
(qIa 1 s5 s9 fun v74 =>
qSt 1 v74 (.bool true) H fun _ H =>
k [s0, s1, s2, s3, s4, s5, s6, s7, (.bool true), s9, s15, s16, s17, s18, s23, s24, s25, s71, s77] H : R))
noncomputable def r163_9 (C : CallF) (k : KT R) : KT R := fun fr H => opn 19 fr (fun s0 s1 s2 s3 s4 s5 s6 s7 s8 s9 s15 s16 s17 s18 s23 s24 s25 s71 s77 => 
(qFa 3 s2 fun v28 =>
qLd v28 H fun v29 =>
qLenL v29 fun v30 =>
qLss X 3 s6 v30 fun v31 =>
qG v31 true (fun k => k s9 H) H fun v33 H =>
qG v31 true (fun k => qFa 2 s3 fun v => k v H) H fun v34 H =>
qG v31 true (fun k => qLd v34 H fun v => k v H) H fun v35 H =>
qG v31 true (fun k => qLenL v35 fun v => k v H) H fun v36 H =>
qG v31 true (fun k => qLss X 3 v33 v36 fun v => k v H) H fun v37 H =>
qPick v31 v37 (.bool false) fun v38 =>
qG v38 true (fun k => k s8 H) H fun v40 H =>
qG v38 true (fun k => qNot v40 fun v => k v H) H fun v41 H =>
qPick v38 v41 (.bool false) fun v42 =>
qG v42 true (fun k => k s5 H) H fun v44 H =>
qG v42 true (fun k => k s9 H) H fun v45 H =>
qG v42 true (fun k => qIa 1 v44 v45 fun v => k v H) H fun v46 H =>
qG v42 true (fun k => qLd v46 H fun v => k v H) H fun v47 H =>
qG v42 true (fun k => qNot v47 fun v => k v H) H fun v48 H =>
qPick v42 v48 (.bool false) fun v49 =>
qG v49 true (fun k => qFa 2 s3 fun v => k v H) H fun v51 H =>
qG v49 true (fun k => qLd v51 H fun v => k v H) H fun v52 H =>
qG v49 true (fun k => k s9 H) H fun v53 H =>
qG v49 true (fun k => qIa 1 v52 v53 fun v => k v H) H fun v54 H =>
qG v49 true (fun k => qLd v54 H fun v => k v H) H fun v55 H =>
qG v49 true (fun k => k s7 H) H fun v56 H =>
qG v49 true (fun k => qEql X 9 v55 v56 fun v => k v H) H fun v57 H =>
qPick v49 v57 (.bool false) fun v58 =>
qG v58 true (fun k => qFa 3 s2 fun v => k v H) H fun v60 H =>
qG v58 true (fun k => qLd v60 H fun v => k v H) H fun v61 H =>
qG v58 true (fun k => k s6 H) H fun v62 H =>
qG v58 true (fun k => qIa 4 v61 v62 fun v => k v H) H fun v63 H =>
qG v58 true (fun k => qLdA 4 v63 H fun v => k v H) H fun v64 H =>
qG v58 true (fun k => qFa 3 s3 fun v => k v H) H fun v65 H =>
qG v58 true (fun k => qLd v65 H fun v => k v H) H fun v66 H =>
qG v58 true (fun k => k s9 H) H fun v67 H =>
qG v58 true (fun k => qIa 4 v66 v67 fun v => k v H) H fun v68 H =>
qG v58 true (fun k => qLdA 4 v68 H fun v => k v H) H fun v69 H =>
qG v58 true (fun k => qRes (C 156 [v64, v69] H) k) H fun v70 H =>
qPick v58 v70 (.bool false) fun v71 =>
k [s0, s1, s2, s3, s4, s5, s6, s7, s8, s9, s15, s16, s17, s18, s23, s24, s25, v71, s77] H : R))
noncomputable def r163_8 (k : KT R) : KT R := fun fr H => opn 19 fr (fun s0 s1 s2 s3 s4 s5 s6 s7 s8 s9 s15 s16 s17 s18 s23 s24 s25 s71 s77 => 
(k [s0, s1, s2, s3, s4, s5, s6, s7, s8, s24, s15, s16, s17, s18, s23, s24, s25, s71, s77] H : R))
noncomputable def r163_7 (k : KT R) : KT R := fun fr H => opn 19 fr (fun s0 s1 s2 s3 s4 s5 s6 s7 s8 s9 s15 s16 s17 s18 s23 s24 s25 s71 s77 => 
(qLss X 3 s24 s23 fun v25 =>
k [s0, s1, s2, s3, s4, s5, s6, s7, s8, s9, s15, s16, s17, s18, s23, s24, v25, s71, s77] H : R))
noncomputable def l163_9 (C : CallF) (k5 : KT R) : KT R → KT R := fun k6 => (r163_7 (qCd (sel 16) (fun k9 => k9) (fun _ => k5) (qBl (fun k7 => (r163_8 (r163_9 C (qCd (sel 17) (fun k8 => (r163_10 k8)) (fun k8 => k8) k7)))) (r163_11 k6))))
noncomputable def r163_6 (k : KT R) : KT R := fun fr H => opn 19 fr (fun s0 s1 s2 s3 s4 s5 s6 s7 s8 s9 s15 s16 s17 s18 s23 s24 s25 s71 s77 => 
(qLenL s5 fun v23 =>
k [s0, s1, s2, s3, s4, s5, s6, s7, s8, s9, s15, s16, s17, s18, v23, (.int .i64 0), s25, s71, s77] H : R))
noncomputable def r163_5 (k : KT R) : KT R := fun fr H => opn 19 fr (fun s0 s1 s2 s3 s4 s5 s6 s7 s8 s9 s15 s16 s17 s18 s23 s24 s25 s71 s77 => 
(k [s0, s1, s2, s3, s4, s5, s6, s7, (.bool false), s9, s15, s16, s17, s18, s23, s24, s25, s71, s77] H : R))
noncomputable def r163_4 (k : KT R) : KT R := fun fr H => opn 19 fr (fun s0 s1 s2 s3 s4 s5 s6 s7 s8 s9 s15 s16 s17 s18 s23 s24 s25 s71 s77 => 
(qIa 1 s15 s17 fun v20 =>
qLd v20 H fun v21 =>
k [s0, s1, s2, s3, s4, s5, s17, v21, s8, s9, s15, s16, s17, s18, s23, s24, s25, s71, s77] H : R))
noncomputable def r163_3 (k : KT R) : KT R := fun fr H => opn 19 fr (fun s0 s1 s2 s3 s4 s5 s6 s7 s8 s9 s15 s16 s17 s18 s23 s24 s25 s71 s77 => 
(qLss X 3 s17 s16 fun v18 =>
k [s0, s1, s2, s3, s4, s5, s6, s7, s8, s9, s15, s16, s17, v18, s23, s24, s25, s71, s77] H : R))
noncomputable def l163_10 (C : CallF) (k1 : KT R) (kr : KT R) : KT R → KT R := fun k2 => (r163_3 (qCd (sel 13) (fun k10 => k10) (fun _ => k1) (qBl (fun k3 => (r163_4 (r163_5 (r163_6 (qBl (fun k5 => (qLoop (l163_9 C k5))) (r163_12 (qCd (sel 18) (fun _ => (r163_13 kr)) (fun k4 => k4) k3))))))) (r163_14 k2))))
noncomputable def r163_2 (k : KT R) : KT R := fun fr H => opn 19 fr (fun s0 s1 s2 s3 s4 s5 s6 s7 s8 s9 s15 s16 s17 s18 s23 s24 s25 s71 s77 => 
(qFa 2 s2 fun v14 =>
qLd v14 H fun v15 =>
qLenL v15 fun v16 =>
k [s0, s1, s2, s3, s4, s5, s6, s7, s8, s9, v15, v16, (.int .i64 0), s18, s23, s24, s25, s71, s77] H : R))
noncomputable def r163_1 (k : KT R) : KT R := fun fr H => opn 19 fr (fun s0 s1 s2 s3 s4 s5 s6 s7 s8 s9 s15 s16 s17 s18 s23 s24 s25 s71 s77 => 
(qFa 3 s3 fun v10 =>
qLd v10 H fun v11 =>
qLenL v11 fun v12 =>
qMkS z4 1 1 v12 v12 H fun v13 H =>
k [s0, s1, s2, s3, s4, v13, s6, s7, s8, s9, s15, s16, s17, s18, s23, s24, s25, s71, s77] H : R))
noncomputable def r163_0 (k : KT R) : KT R := fun fr H => opn 19 fr (fun s0 s1 s2 s3 s4 s5 s6 s7 s8 s9 s15 s16 s17 s18 s23 s24 s25 s71 s77 => 
(qBox s0 H fun v2 H =>
qBox s1 H fun v3 H =>
k [s0, s1, v2, v3, (.bool false), s5, s6, s7, s8, s9, s15, s16, s17, s18, s23, s24, s25, s71, s77] H : R))
noncomputable def c163 (C : CallF) (l0 : List AV) (H : AH) (k : AV → AH → R) : R := opn 2 l0 (fun x0 x1 => (qFn (fun kr => (r163_0 (r163_1 (r163_2 (qBl (fun k1 => (qLoop (l163_10 C k1 kr))) (r163_15 kr))))))
(fun fr H => k (sel 4 fr) H) [x0, x1, undef, undef, undef, undef, undef, undef, undef, undef, undef, undef, undef, undef, undef, undef, undef, undef, undef] H : R))
/- internal/stringslite.IndexByte -/
noncomputable def r164_1 (C : CallF) (k : KT R) : KT R := fun fr H => opn 3 fr (fun s0 s1 s4 => 
(qRes (C 168 [s0, s1] H) fun v7 H =>
k [s0, s1, v7] H : R))
noncomputable def r164_0 (k : KT R) : KT R := fun fr H => opn 3 fr (fun s0 s1 s4 => 
(k [s0, s1, (.int .i64 0)] H : R))
noncomputable def c164 (C : CallF) (l0 : List AV) (H : AH) (k : AV → AH → R) : R := opn 2 l0 (fun x0 x1 => (qFn (fun kr => (r164_0 (r164_1 C kr)))
(fun fr H => k (sel 2 fr) H) [x0, x1, undef] H : R))
/- internal/bytealg.Cutover -/
noncomputable def r166_1 (k : KT R) : KT R := fun fr H => opn 2 fr (fun s0 s2 => 
(qAdd X 3 s0 (.int .i64 16) fun v4 =>
qQuo X 3 v4 (.int .i64 8) fun v5 =>
k [s0, v5] H : R))
noncomputable def r166_0 (k : KT R) : KT R := fun fr H => opn 2 fr (fun s0 s2 => 
(k [s0, (.int .i64 0)] H : R))
noncomputable def c166 (C : CallF) (l0 : List AV) (H : AH) (k : AV → AH → R) : R := opn 1 l0 (fun x0 => (qFn (fun kr => (r166_0 (r166_1 kr)))
(fun fr H => k (sel 1 fr) H) [x0, undef] H : R))
/- internal/bytealg.IndexRabinKarp[string] -/
noncomputable def r167_18 (k : KT R) : KT R := fun fr H => opn 13 fr (fun s0 s1 s4 s5 s6 s7 s8 s9 s10 s20 s39 s44 s77 => 
(k [s0, s1, (.int .i64 (-1)), s5, s6, s7, s8, s9, s10, s20, s39, s44, s77] H : R))
noncomputable def r167_17 (k : KT R) : KT R := fun fr H => opn 13 fr (fun s0 s1 s4 s5 s6 s7 s8 s9 s10 s20 s39 s44 s77 => 
(qSub X 3 s10 s7 fun v80 =>
k [s0, s1, v80, s5, s6, s7, s8, s9, s10, s20, s39, s44, s77] H : R))
noncomputable def r167_16 (k : KT R) : KT R := fun fr H => opn 13 fr (fun s0 s1 s4 s5 s6 s7 s8 s9 s10 s20 s39 s44 s77 => 
(qEql X 240 s8 s5 fun v67 =>
qG v67 true (fun k => k s0 H) H fun v69 H =>
qG v67 true (fun k => k s10 H) H fun v70 H =>
qG v67 true (fun k => k s7 H) H fun v71 H =>
qG v67 true (fun k => qSub X 3 v70 v71 fun v => k v H) H fun v72 H =>
qG v67 true (fun k => k s10 H) H fun v73 H =>
qG v67 true (fun k => qSlc Try.t9.desc 0 v69 (some v72) (some v73) none fun v => k v H) H fun v74 H =>
qG v67 true (fun k => k s1 H) H fun v75 H =>
qG v67 true (fun k => qEql X 9 v74 v75 fun v => k v H) H fun v76 H =>
qPick v67 v76 (.bool false) fun v77 =>
k [s0, s1, s4, s5, s6, s7, s8, s9, s10, s20, s39, s44, v77] H : R))
noncomputable def r167_15 (k : KT R) : KT R := fun fr H => opn 13 fr (fun s0 s1 s4 s5 s6 s7 s8 s9 s10 s20 s39 s44 s77 => 
(qAdd X 3 s10 (.int .i64 1) fun v64 =>
k [s0, s1, s4, s5, s6, s7, s8, s9, v64, s20, s39, s44, s77] H : R))
noncomputable def r167_14 (k : KT R) : KT R := fun fr H => opn 13 fr (fun s0 s1 s4 s5 s6 s7 s8 s9 s10 s20 s39 s44 s77 => 
(qSub X 3 s10 s7 fun v58 =>
qIx s0 v58 fun v59 =>
qConvI .u32 v59 fun v60 =>
qMul X 240 s6 v60 fun v61 =>
qSub X 240 s8 v61 fun v62 =>
k [s0, s1, s4, s5, s6, s7, v62, s9, s10, s20, s39, s44, s77] H : R))
noncomputable def r167_13 (k : KT R) : KT R := fun fr H => opn 13 fr (fun s0 s1 s4 s5 s6 s7 s8 s9 s10 s20 s39 s44 s77 => 
(qIx s0 s10 fun v50 =>
qConvI .u32 v50 fun v51 =>
qAdd X 240 s8 v51 fun v52 =>
k [s0, s1, s4, s5, s6, s7, v52, s9, s10, s20, s39, s44, s77] H : R))
noncomputable def r167_12 (k : KT R) : KT R := fun fr H => opn 13 fr (fun s0 s1 s4 s5 s6 s7 s8 s9 s10 s20 s39 s44 s77 => 
(qMul X 240 s8 (.int .u32 16777619) fun v46 =>
k [s0, s1, s4, s5, s6, s7, v46, s9, s10, s20, s39, s44, s77] H : R))
noncomputable def r167_11 (k : KT R) : KT R := fun fr H => opn 13 fr (fun s0 s1 s4 s5 s6 s7 s8 s9 s10 s20 s39 s44 s77 => 
(qLenS s0 fun v43 =>
qLss X 3 s10 v43 fun v44 =>
k [s0, s1, s4, s5, s6, s7, s8, s9, s10, s20, s39, v44, s77] H : R))
noncomputable def l167_5 (k1 : KT R) (kr : KT R) : KT R → KT R := fun k2 => (r167_11 (qCd (sel 11) (fun k5 => k5) (fun _ => k1) (qBl (fun k3 => (r167_12 (r167_13 (r167_14 (r167_15 (r167_16 (qCd (sel 12) (fun _ => (r167_17 kr)) (fun k4 => k4) k3))))))) k2)))
noncomputable def r167_10 (k : KT R) : KT R := fun fr H => opn 13 fr (fun s0 s1 s4 s5 s6 s7 s8 s9 s10 s20 s39 s44 s77 => 
(k [s0, s1, s4, s5, s6, s7, s8, s9, s7, s20, s39, s44, s77] H : R))
noncomputable def r167_9 (k : KT R) : KT R := fun fr H => opn 13 fr (fun s0 s1 s4 s5 s6 s7 s8 s9 s10 s20 s39 s44 s77 => 
(k [s0, s1, (.int .i64 0), s5, s6, s7, s8, s9, s10, s20, s39, s44, s77] H : R))
noncomputable def r167_8 (k : KT R) : KT R := fun fr H => opn 13 fr (fun s0 s1 s4 s5 s6 s7 s8 s9 s10 s20 s39 s44 s77 => 
(qEql X 240 s8 s5 fun v32 =>
qG v32 true (fun k => k s0 H) H fun v34 H =>
qG v32 true (fun k => k s7 H) H fun v35 H =>
qG v32 true (fun k => qSlc Try.t9.desc 0 v34 none (some v35) none fun v => k v H) H fun v36 H =>
qG v32 true (fun k => k s1 H) H fun v37 H =>
qG v32 true (fun k => qEql X 9 v36 v37 fun v => k v H) H fun v38 H =>
qPick v32 v38 (.bool false) fun v39 =>
k [s0, s1, s4, s5, s6, s7, s8, s9, s10, s20, v39, s44, s77] H : R))
noncomputable def r167_6 (k : KT R) : KT R := fun fr H => opn 13 fr (fun s0 s1 s4 s5 s6 s7 s8 s9 s10 s20 s39 s44 s77 => 
(qAdd X 3 s9 (.int .i64 1) fun v22 =>
k [s0, s1, s4, s5, s6, s7, s8, v22, s10, s20, s39, s44, s77] H : R))
noncomputable def r167_7 (k : KT R) : KT R := fun fr H => opn 13 fr (fun s0 s1 s4 s5 s6 s7 s8 s9 s10 s20 s39 s44 s77 => 
(qMul X 240 s8 (.int .u32 16777619) fun v24 =>
qIx s0 s9 fun v27 =>
qConvI .u32 v27 fun v28 =>
qAdd X 240 v24 v28 fun v29 =>
k [s0, s1, s4, s5, s6, s7, v29, s9, s10, s20, s39, s44, s77] H : R))
noncomputable def r167_5 (k : KT R) : KT R := fun fr H => opn 13 fr (fun s0 s1 s4 s5 s6 s7 s8 s9 s10 s20 s39 s44 s77 => 
(qLss X 3 s9 s7 fun v20 =>
k [s0, s1, s4, s5, s6, s7, s8, s9, s10, v20, s39, s44, s77] H : R))
noncomputable def l167_10 (k7 : KT R) : KT R → KT R := fun k8 => (r167_5 (qCd (sel 9) (fun k10 => k10) (fun _ => k7) (qBl (fun k9 => (r167_7 k9)) (r167_6 k8))))
noncomputable def r167_4 (k : KT R) : KT R := fun fr H => opn 13 fr (fun s0 s1 s4 s5 s6 s7 s8 s9 s10 s20 s39 s44 s77 => 
(k [s0, s1, s4, s5, s6, s7, s8, (.int .i64 0), s10, s20, s39, s44, s77] H : R))
noncomputable def r167_3 (k : KT R) : KT R := fun fr H => opn 13 fr (fun s0 s1 s4 s5 s6 s7 s8 s9 s10 s20 s39 s44 s77 => 
(k [s0, s1, s4, s5, s6, s7, (.int .u32 0), s9, s10, s20, s39, s44, s77] H : R))
noncomputable def r167_2 (k : KT R) : KT R := fun fr H => opn 13 fr (fun s0 s1 s4 s5 s6 s7 s8 s9 s10 s20 s39 s44 s77 => 
(qLenS s1 fun v17 =>
k [s0, s1, s4, s5, s6, v17, s8, s9, s10, s20, s39, s44, s77] H : R))
noncomputable def r167_1 (C : CallF) (k : KT R) : KT R := fun fr H => opn 13 fr (fun s0 s1 s4 s5 s6 s7 s8 s9 s10 s20 s39 s44 s77 => 
(qRes (C 169 [s1] H) fun v13 H =>
qExt v13 0 fun v14 =>
qExt v13 1 fun v15 =>
k [s0, s1, s4, v14, v15, s7, s8, s9, s10, s20, s39, s44, s77] H : R))
noncomputable def r167_0 (k : KT R) : KT R := fun fr H => opn 13 fr (fun s0 s1 s4 s5 s6 s7 s8 s9 s10 s20 s39 s44 s77 => 
(k [s0, s1, (.int .i64 0), s5, s6, s7, s8, s9, s10, s20, s39, s44, s77] H : R))
noncomputable def c167 (C : CallF) (l0 : List AV) (H : AH) (k : AV → AH → R) : R := opn 2 l0 (fun x0 x1 => (qFn (fun kr => (r167_0 (r167_1 C (r167_2 (r167_3 (r167_4 (qBl (fun k7 => (qLoop (l167_10 k7))) (r167_8 (qCd (sel 10) (fun _ => (r167_9 kr)) (fun k6 => k6) (r167_10 (qBl (fun k1 => (qLoop (l167_5 k1 kr))) (r167_18 kr))))))))))))
(fun fr H => k (sel 2 fr) H) [x0, x1, undef, undef, undef, undef, undef, undef, undef, undef, undef, undef, undef] H : R))
/- internal/bytealg.hashStr[string] -/
noncomputable def r169_13 (k : KT R) : KT R := fun fr H => opn 11 fr (fun s0 s2 s3 s4 s5 s6 s7 s8 s12 s25 s30 => 
(k [s0, s4, s6, s4, s5, s6, s7, s8, s12, s25, s30] H : R))
noncomputable def r169_9 (k : KT R) : KT R := fun fr H => opn 11 fr (fun s0 s2 s3 s4 s5 s6 s7 s8 s12 s25 s30 => 
(qO (binop X .shr 3 s8 (.int .u64 1)) fun v27 =>
k [s0, s2, s3, s4, s5, s6, s7, v27, s12, s25, s30] H : R))
noncomputable def r169_12 (k : KT R) : KT R := fun fr H => opn 11 fr (fun s0 s2 s3 s4 s5 s6 s7 s8 s12 s25 s30 => 
(qMul X 240 s7 s7 fun v36 =>
k [s0, s2, s3, s4, s5, s6, v36, s8, s12, s25, s30] H : R))
noncomputable def r169_11 (k : KT R) : KT R := fun fr H => opn 11 fr (fun s0 s2 s3 s4 s5 s6 s7 s8 s12 s25 s30 => 
(qMul X 240 s6 s7 fun v33 =>
k [s0, s2, s3, s4, s5, v33, s7, s8, s12, s25, s30] H : R))
noncomputable def r169_10 (k : KT R) : KT R := fun fr H => opn 11 fr (fun s0 s2 s3 s4 s5 s6 s7 s8 s12 s25 s30 => 
(qO (binop X .and 3 s8 (.int .i64 1)) fun v29 =>
qNeq X 3 v29 (.int .i64 0) fun v30 =>
k [s0, s2, s3, s4, s5, s6, s7, s8, s12, s25, v30] H : R))
noncomputable def r169_8 (k : KT R) : KT R := fun fr H => opn 11 fr (fun s0 s2 s3 s4 s5 s6 s7 s8 s12 s25 s30 => 
(qGtr X 3 s8 (.int .i64 0) fun v25 =>
k [s0, s2, s3, s4, s5, s6, s7, s8, s12, v25, s30] H : R))
noncomputable def l169_5 (k1 : KT R) : KT R → KT R := fun k2 => (r169_8 (qCd (sel 9) (fun k5 => k5) (fun _ => k1) (qBl (fun k3 => (r169_10 (qCd (sel 10) (fun k4 => (r169_11 k4)) (fun k4 => k4) (r169_12 k3)))) (r169_9 k2))))
noncomputable def r169_7 (k : KT R) : KT R := fun fr H => opn 11 fr (fun s0 s2 s3 s4 s5 s6 s7 s8 s12 s25 s30 => 
(qLenS s0 fun v23 =>
k [s0, s2, s3, s4, s5, s6, s7, v23, s12, s25, s30] H : R))
noncomputable def r169_6 (k : KT R) : KT R := fun fr H => opn 11 fr (fun s0 s2 s3 s4 s5 s6 s7 s8 s12 s25 s30 => 
(k [s0, s2, s3, s4, s5, (.int .u32 1), (.int .u32 16777619), s8, s12, s25, s30] H : R))
noncomputable def r169_4 (k : KT R) : KT R := fun fr H => opn 11 fr (fun s0 s2 s3 s4 s5 s6 s7 s8 s12 s25 s30 => 
(qAdd X 3 s5 (.int .i64 1) fun v14 =>
k [s0, s2, s3, s4, v14, s6, s7, s8, s12, s25, s30] H : R))
noncomputable def r169_5 (k : KT R) : KT R := fun fr H => opn 11 fr (fun s0 s2 s3 s4 s5 s6 s7 s8 s12 s25 s30 => 
(qMul X 240 s4 (.int .u32 16777619) fun v16 =>
qIx s0 s5 fun v19 =>
qConvI .u32 v19 fun v20 =>
qAdd X 240 v16 v20 fun v21 =>
k [s0, s2, s3, v21, s5, s6, s7, s8, s12, s25, s30] H : R))
noncomputable def r169_3 (k : KT R) : KT R := fun fr H => opn 11 fr (fun s0 s2 s3 s4 s5 s6 s7 s8 s12 s25 s30 => 
(qLenS s0 fun v11 =>
qLss X 3 s5 v11 fun v12 =>
k [s0, s2, s3, s4, s5, s6, s7, s8, v12, s25, s30] H : R))
noncomputable def l169_9 (k6 : KT R) : KT R → KT R := fun k7 => (r169_3 (qCd (sel 8) (fun k9 => k9) (fun _ => k6) (qBl (fun k8 => (r169_5 k8)) (r169_4 k7))))
noncomputable def r169_2 (k : KT R) : KT R := fun fr H => opn 11 fr (fun s0 s2 s3 s4 s5 s6 s7 s8 s12 s25 s30 => 
(k [s0, s2, s3, s4, (.int .i64 0), s6, s7, s8, s12, s25, s30] H : R))
noncomputable def r169_1 (k : KT R) : KT R := fun fr H => opn 11 fr (fun s0 s2 s3 s4 s5 s6 s7 s8 s12 s25 s30 => 
(k [s0, s2, s3, (.int .u32 0), s5, s6, s7, s8, s12, s25, s30] H : R))
noncomputable def r169_0 (k : KT R) : KT R := fun fr H => opn 11 fr (fun s0 s2 s3 s4 s5 s6 s7 s8 s12 s25 s30 => 
(k [s0, (.int .u32 0), (.int .u32 0), s4, s5, s6, s7, s8, s12, s25, s30] H : R))
noncomputable def c169 (C : CallF) (l0 : List AV) (H : AH) (k : AV → AH → R) : R := opn 1 l0 (fun x0 => (qFn (fun kr => (r169_0 (r169_1 (r169_2 (qBl (fun k6 => (qLoop (l169_9 k6))) (r169_6 (r169_7 (qBl (fun k1 => (qLoop (l169_5 k1))) (r169_13 kr)))))))))
(fun fr H => k (.tup [(sel 1 fr), (sel 2 fr)]) H) [x0, undef, undef, undef, undef, undef, undef, undef, undef, undef, undef] H : R))
end
theorem e162 {R : Type} [Mon R] : hFn (R := R) X 162 Try.f162 1 [0, 2, 3, 10, 23] = c162 := by kernel_rfl
theorem xf162 : X.fn 162 = some Try.f162 := by kernel_rfl
theorem e163 {R : Type} [Mon R] : hFn (R := R) X 163 Try.f163 2 [0, 1, 2, 3, 4, 5, 6, 7, 8, 9, 15, 16, 17, 18, 23, 24, 25, 71, 77] = c163 := by kernel_rfl
theorem xf163 : X.fn 163 = some Try.f163 := by kernel_rfl
theorem e164 {R : Type} [Mon R] : hFn (R := R) X 164 Try.f164 2 [0, 1, 4] = c164 := by kernel_rfl
theorem xf164 : X.fn 164 = some Try.f164 := by kernel_rfl
theorem e166 {R : Type} [Mon R] : hFn (R := R) X 166 Try.f166 1 [0, 2] = c166 := by kernel_rfl
theorem xf166 : X.fn 166 = some Try.f166 := by kernel_rfl
theorem e167 {R : Type} [Mon R] : hFn (R := R) X 167 Try.f167 2 [0, 1, 4, 5, 6, 7, 8, 9, 10, 20, 39, 44, 77] = c167 := by kernel_rfl
theorem xf167 : X.fn 167 = some Try.f167 := by kernel_rfl
theorem e169 {R : Type} [Mon R] : hFn (R := R) X 169 Try.f169 1 [0, 2, 3, 4, 5, 6, 7, 8, 12, 25, 30] = c169 := by kernel_rfl
theorem xf169 : X.fn 169 = some Try.f169 := by kernel_rfl
end T
