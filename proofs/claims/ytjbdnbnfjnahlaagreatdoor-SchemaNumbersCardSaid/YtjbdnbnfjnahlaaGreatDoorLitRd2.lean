import Derived.Test.YtjbdnbnfjnahlaaGreatDoorLitRd1
set_option linter.all false
set_option maxRecDepth 100000
set_option linter.unusedVariables false
open Go Go.Aes Go.Proofs
namespace T
section
variable {R : Type} [Mon R]
/- refectory/refectoryref04.block -/
noncomputable def r122_10 (k : KT R) : KT R := fun fr H => opn 10 fr (fun s0 s1 s4 s5 s6 s7 s11 s21 s41 s59 => 
(k [s0, s1, (.str []), s1, (.bool false), s7, s11, s21, s41, s59] H : R))
noncomputable def r122_5 (C : CallF) (k : KT R) : KT R := fun fr H => opn 10 fr (fun s0 s1 s4 s5 s6 s7 s11 s21 s41 s59 => 
(qRes (C 135 [s7] H) fun v36 H =>
qAdd X 3 s1 (.int .i64 3) fun v38 =>
qRes (C 136 [s7] H) fun v40 H =>
k [s0, s1, v36, v38, v40, s7, s11, s21, s41, s59] H : R))
noncomputable def r122_7 (k : KT R) : KT R := fun fr H => opn 10 fr (fun s0 s1 s4 s5 s6 s7 s11 s21 s41 s59 => 
(qAdd X 9 s7 (.str [34,34,34]) fun v56 =>
qAdd X 3 s1 (.int .i64 4) fun v58 =>
k [s0, v58, s4, s5, s6, v56, s11, s21, s41, s59] H : R))
noncomputable def r122_9 (k : KT R) : KT R := fun fr H => opn 10 fr (fun s0 s1 s4 s5 s6 s7 s11 s21 s41 s59 => 
(k [s0, s1, (.str []), s1, (.bool false), s7, s11, s21, s41, s59] H : R))
noncomputable def r122_3 (k : KT R) : KT R := fun fr H => opn 10 fr (fun s0 s1 s4 s5 s6 s7 s11 s21 s41 s59 => 
(qAdd X 3 s1 (.int .i64 1) fun v16 =>
qSlc Tryz.t9.desc 0 s0 (some s1) (some v16) none fun v17 =>
qAdd X 9 s7 v17 fun v18 =>
qAdd X 3 s1 (.int .i64 1) fun v20 =>
k [s0, v20, s4, s5, s6, v18, s11, s21, s41, s59] H : R))
noncomputable def r122_8 (k : KT R) : KT R := fun fr H => opn 10 fr (fun s0 s1 s4 s5 s6 s7 s11 s21 s41 s59 => 
(qIx s0 s1 fun v62 =>
qLss X 5 v62 (.int .u8 32) fun v63 =>
qG v63 true (fun k => k s0 H) H fun v65 H =>
qG v63 true (fun k => k s1 H) H fun v66 H =>
qG v63 true (fun k => qIx v65 v66 fun v => k v H) H fun v67 H =>
qG v63 true (fun k => qNeq X 5 v67 (.int .u8 9) fun v => k v H) H fun v68 H =>
qPick v63 v68 (.bool false) fun v69 =>
qG v69 true (fun k => k s0 H) H fun v71 H =>
qG v69 true (fun k => k s1 H) H fun v72 H =>
qG v69 true (fun k => qIx v71 v72 fun v => k v H) H fun v73 H =>
qG v69 true (fun k => qNeq X 5 v73 (.int .u8 10) fun v => k v H) H fun v74 H =>
qPick v69 v74 (.bool false) fun v75 =>
qG v75 true (fun k => k s0 H) H fun v77 H =>
qG v75 true (fun k => k s1 H) H fun v78 H =>
qG v75 true (fun k => qIx v77 v78 fun v => k v H) H fun v79 H =>
qG v75 true (fun k => qNeq X 5 v79 (.int .u8 13) fun v => k v H) H fun v80 H =>
qPick v75 v80 (.bool false) fun v81 =>
k [s0, s1, s4, s5, s6, s7, s11, s21, s41, v81] H : R))
noncomputable def r122_6 (k : KT R) : KT R := fun fr H => opn 10 fr (fun s0 s1 s4 s5 s6 s7 s11 s21 s41 s59 => 
(qLenS s0 fun v43 =>
qSub X 3 v43 s1 fun v45 =>
qGeq X 3 v45 (.int .i64 4) fun v46 =>
qG v46 true (fun k => k s0 H) H fun v48 H =>
qG v46 true (fun k => k s1 H) H fun v49 H =>
qG v46 true (fun k => k s1 H) H fun v50 H =>
qG v46 true (fun k => qAdd X 3 v50 (.int .i64 4) fun v => k v H) H fun v51 H =>
qG v46 true (fun k => qSlc Tryz.t9.desc 0 v48 (some v49) (some v51) none fun v => k v H) H fun v52 H =>
qG v46 true (fun k => qEql X 9 v52 (.str [92,34,34,34]) fun v => k v H) H fun v53 H =>
qPick v46 v53 (.bool false) fun v54 =>
k [s0, s1, s4, s5, s6, s7, s11, s21, v54, s59] H : R))
noncomputable def r122_4 (k : KT R) : KT R := fun fr H => opn 10 fr (fun s0 s1 s4 s5 s6 s7 s11 s21 s41 s59 => 
(qLenS s0 fun v23 =>
qSub X 3 v23 s1 fun v25 =>
qGeq X 3 v25 (.int .i64 3) fun v26 =>
qG v26 true (fun k => k s0 H) H fun v28 H =>
qG v26 true (fun k => k s1 H) H fun v29 H =>
qG v26 true (fun k => k s1 H) H fun v30 H =>
qG v26 true (fun k => qAdd X 3 v30 (.int .i64 3) fun v => k v H) H fun v31 H =>
qG v26 true (fun k => qSlc Tryz.t9.desc 0 v28 (some v29) (some v31) none fun v => k v H) H fun v32 H =>
qG v26 true (fun k => qEql X 9 v32 (.str [34,34,34]) fun v => k v H) H fun v33 H =>
qPick v26 v33 (.bool false) fun v34 =>
k [s0, s1, s4, s5, s6, s7, s11, v34, s41, s59] H : R))
noncomputable def r122_2 (k : KT R) : KT R := fun fr H => opn 10 fr (fun s0 s1 s4 s5 s6 s7 s11 s21 s41 s59 => 
(qLenS s0 fun v10 =>
qLss X 3 s1 v10 fun v11 =>
k [s0, s1, s4, s5, s6, s7, v11, s21, s41, s59] H : R))
noncomputable def l122_8 (C : CallF) (k1 : KT R) (kr : KT R) : KT R → KT R := fun k2 => (r122_2 (qCd (sel 6) (fun k8 => k8) (fun _ => k1) (qBl (fun k3 => (qBl (fun k4 => (r122_4 (qCd (sel 7) (fun _ => (r122_5 C kr)) (fun k5 => (r122_6 (qCd (sel 8) (fun k6 => (r122_7 k6)) (fun k6 => (r122_8 (qCd (sel 9) (fun _ => (r122_9 kr)) (fun k7 => (r122_3 k7)) k6))) k5))) k4))) k3)) k2)))
noncomputable def r122_1 (k : KT R) : KT R := fun fr H => opn 10 fr (fun s0 s1 s4 s5 s6 s7 s11 s21 s41 s59 => 
(k [s0, s1, s4, s5, s6, (.str []), s11, s21, s41, s59] H : R))
noncomputable def r122_0 (k : KT R) : KT R := fun fr H => opn 10 fr (fun s0 s1 s4 s5 s6 s7 s11 s21 s41 s59 => 
(k [s0, s1, (.str []), (.int .i64 0), (.bool false), s7, s11, s21, s41, s59] H : R))
noncomputable def c122 (C : CallF) (l0 : List AV) (H : AH) (k : AV → AH → R) : R := opn 2 l0 (fun x0 x1 => (qFn (fun kr => (r122_0 (r122_1 (qBl (fun k1 => (qLoop (l122_8 C k1 kr))) (r122_10 kr)))))
(fun fr H => k (.tup [(sel 2 fr), (sel 3 fr), (sel 4 fr)]) H) [x0, x1, Aes.undef, Aes.undef, Aes.undef, Aes.undef, Aes.undef, Aes.undef, Aes.undef, Aes.undef] H : R))
/- refectory/refectoryref01.Unquote -/
noncomputable def r123_15 (k : KT R) : KT R := fun fr H => opn 13 fr (fun s0 s2 s3 s4 s5 s6 s7 s8 s29 s38 s48 s61 s69 => 
(k [s0, s5, (.bool true), s4, s5, s6, s7, s8, s29, s38, s48, s61, s69] H : R))
noncomputable def r123_12 (k : KT R) : KT R := fun fr H => opn 13 fr (fun s0 s2 s3 s4 s5 s6 s7 s8 s29 s38 s48 s61 s69 => 
(qAdd X 9 s5 s7 fun v64 =>
qAdd X 3 s6 (.int .i64 1) fun v66 =>
qAdd X 3 v66 s8 fun v68 =>
k [s0, s2, s3, s4, v64, v68, s7, s8, s29, s38, s48, s61, s69] H : R))
noncomputable def r123_11 (k : KT R) : KT R := fun fr H => opn 13 fr (fun s0 s2 s3 s4 s5 s6 s7 s8 s29 s38 s48 s61 s69 => 
(k [s0, (.str []), (.bool false), s4, s5, s6, s7, s8, s29, s38, s48, s61, s69] H : R))
noncomputable def r123_10 (k : KT R) : KT R := fun fr H => opn 13 fr (fun s0 s2 s3 s4 s5 s6 s7 s8 s29 s38 s48 s61 s69 => 
(qEql X 3 s8 (.int .i64 0) fun v61 =>
k [s0, s2, s3, s4, s5, s6, s7, s8, s29, s38, s48, v61, s69] H : R))
noncomputable def r123_9 (C : CallF) (k : KT R) : KT R := fun fr H => opn 13 fr (fun s0 s2 s3 s4 s5 s6 s7 s8 s29 s38 s48 s61 s69 => 
(qAdd X 3 s6 (.int .i64 1) fun v56 =>
qRes (C 137 [s4, v56] H) fun v57 H =>
qExt v57 0 fun v58 =>
qExt v57 1 fun v59 =>
k [s0, s2, s3, s4, s5, s6, v58, v59, s29, s38, s48, s61, s69] H : R))
noncomputable def r123_14 (k : KT R) : KT R := fun fr H => opn 13 fr (fun s0 s2 s3 s4 s5 s6 s7 s8 s29 s38 s48 s61 s69 => 
(k [s0, (.str []), (.bool false), s4, s5, s6, s7, s8, s29, s38, s48, s61, s69] H : R))
noncomputable def r123_7 (k : KT R) : KT R := fun fr H => opn 13 fr (fun s0 s2 s3 s4 s5 s6 s7 s8 s29 s38 s48 s61 s69 => 
(qAdd X 3 s6 (.int .i64 1) fun v43 =>
qSlc Tryz.t9.desc 0 s4 (some s6) (some v43) none fun v44 =>
qAdd X 9 s5 v44 fun v45 =>
qAdd X 3 s6 (.int .i64 1) fun v47 =>
k [s0, s2, s3, s4, v45, v47, s7, s8, s29, s38, s48, s61, s69] H : R))
noncomputable def r123_13 (k : KT R) : KT R := fun fr H => opn 13 fr (fun s0 s2 s3 s4 s5 s6 s7 s8 s29 s38 s48 s61 s69 => 
(qIx s4 s6 fun v72 =>
qLss X 5 v72 (.int .u8 32) fun v73 =>
qG v73 false (fun k => k s4 H) H fun v75 H =>
qG v73 false (fun k => k s6 H) H fun v76 H =>
qG v73 false (fun k => qIx v75 v76 fun v => k v H) H fun v77 H =>
qG v73 false (fun k => qEql X 5 v77 (.int .u8 34) fun v => k v H) H fun v78 H =>
qPick v73 (.bool true) v78 fun v79 =>
k [s0, s2, s3, s4, s5, s6, s7, s8, s29, s38, s48, s61, v79] H : R))
noncomputable def r123_8 (k : KT R) : KT R := fun fr H => opn 13 fr (fun s0 s2 s3 s4 s5 s6 s7 s8 s29 s38 s48 s61 s69 => 
(qIx s4 s6 fun v51 =>
qEql X 5 v51 (.int .u8 92) fun v52 =>
k [s0, s2, s3, s4, s5, s6, s7, s8, s29, s38, v52, s61, s69] H : R))
noncomputable def r123_6 (k : KT R) : KT R := fun fr H => opn 13 fr (fun s0 s2 s3 s4 s5 s6 s7 s8 s29 s38 s48 s61 s69 => 
(qLenS s4 fun v37 =>
qLss X 3 s6 v37 fun v38 =>
k [s0, s2, s3, s4, s5, s6, s7, s8, s29, v38, s48, s61, s69] H : R))
noncomputable def l123_8 (C : CallF) (k1 : KT R) (kr : KT R) : KT R → KT R := fun k2 => (r123_6 (qCd (sel 9) (fun k8 => k8) (fun _ => k1) (qBl (fun k3 => (qBl (fun k4 => (r123_8 (qCd (sel 10) (fun k5 => (r123_9 C (r123_10 (qCd (sel 11) (fun _ => (r123_11 kr)) (fun k6 => k6) (r123_12 k5))))) (fun k5 => (r123_13 (qCd (sel 12) (fun _ => (r123_14 kr)) (fun k7 => (r123_7 k7)) k5))) k4))) k3)) k2)))
noncomputable def r123_5 (k : KT R) : KT R := fun fr H => opn 13 fr (fun s0 s2 s3 s4 s5 s6 s7 s8 s29 s38 s48 s61 s69 => 
(k [s0, s2, s3, s4, s5, (.int .i64 0), s7, s8, s29, s38, s48, s61, s69] H : R))
noncomputable def r123_4 (k : KT R) : KT R := fun fr H => opn 13 fr (fun s0 s2 s3 s4 s5 s6 s7 s8 s29 s38 s48 s61 s69 => 
(k [s0, s2, s3, s4, (.str []), s6, s7, s8, s29, s38, s48, s61, s69] H : R))
noncomputable def r123_3 (k : KT R) : KT R := fun fr H => opn 13 fr (fun s0 s2 s3 s4 s5 s6 s7 s8 s29 s38 s48 s61 s69 => 
(qLenS s0 fun v32 =>
qSub X 3 v32 (.int .i64 1) fun v33 =>
qSlc Tryz.t9.desc 0 s0 (some (.int .i64 1)) (some v33) none fun v34 =>
k [s0, s2, s3, v34, s5, s6, s7, s8, s29, s38, s48, s61, s69] H : R))
noncomputable def r123_2 (k : KT R) : KT R := fun fr H => opn 13 fr (fun s0 s2 s3 s4 s5 s6 s7 s8 s29 s38 s48 s61 s69 => 
(k [s0, (.str []), (.bool false), s4, s5, s6, s7, s8, s29, s38, s48, s61, s69] H : R))
noncomputable def r123_1 (C : CallF) (k : KT R) : KT R := fun fr H => opn 13 fr (fun s0 s2 s3 s4 s5 s6 s7 s8 s29 s38 s48 s61 s69 => 
(qLenS s0 fun v10 =>
qLss X 3 v10 (.int .i64 2) fun v11 =>
qG v11 false (fun k => k s0 H) H fun v13 H =>
qG v11 false (fun k => qIx v13 (.int .i64 0) fun v => k v H) H fun v14 H =>
qG v11 false (fun k => qNeq X 5 v14 (.int .u8 34) fun v => k v H) H fun v15 H =>
qPick v11 (.bool true) v15 fun v16 =>
qG v16 false (fun k => k s0 H) H fun v18 H =>
qG v16 false (fun k => k s0 H) H fun v19 H =>
qG v16 false (fun k => qLenS v19 fun v => k v H) H fun v20 H =>
qG v16 false (fun k => qSub X 3 v20 (.int .i64 1) fun v => k v H) H fun v21 H =>
qG v16 false (fun k => qIx v18 v21 fun v => k v H) H fun v22 H =>
qG v16 false (fun k => qNeq X 5 v22 (.int .u8 34) fun v => k v H) H fun v23 H =>
qPick v16 (.bool true) v23 fun v24 =>
qG v24 false (fun k => k s0 H) H fun v26 H =>
qG v24 false (fun k => qRes (C 136 [v26] H) k) H fun v27 H =>
qG v24 false (fun k => qNot v27 fun v => k v H) H fun v28 H =>
qPick v24 (.bool true) v28 fun v29 =>
k [s0, s2, s3, s4, s5, s6, s7, s8, v29, s38, s48, s61, s69] H : R))
noncomputable def r123_0 (k : KT R) : KT R := fun fr H => opn 13 fr (fun s0 s2 s3 s4 s5 s6 s7 s8 s29 s38 s48 s61 s69 => 
(k [s0, (.str []), (.bool false), s4, s5, s6, s7, s8, s29, s38, s48, s61, s69] H : R))
noncomputable def c123 (C : CallF) (l0 : List AV) (H : AH) (k : AV → AH → R) : R := opn 1 l0 (fun x0 => (qFn (fun kr => (r123_0 (r123_1 C (qCd (sel 8) (fun _ => (r123_2 kr)) (fun k9 => k9) (r123_3 (r123_4 (r123_5 (qBl (fun k1 => (qLoop (l123_8 C k1 kr))) (r123_15 kr)))))))))
(fun fr H => k (.tup [(sel 1 fr), (sel 2 fr)]) H) [x0, Aes.undef, Aes.undef, Aes.undef, Aes.undef, Aes.undef, Aes.undef, Aes.undef, Aes.undef, Aes.undef, Aes.undef, Aes.undef, Aes.undef] H : R))
/- refectory/refectoryref05.Type -/
noncomputable def r124_5 (k : KT R) : KT R := fun fr H => opn 9 fr (fun s0 s1 s4 s5 s6 s7 s8 s9 s20 => 
(qLdA 2 s8 H fun v23 =>
qNc s7 fun v25 =>
qFa 1 v25 fun v26 =>
qLd v26 H fun v27 =>
qSt 2 s4 v23 H fun _ H =>
qLd v26 H fun w => qSame v27 w (k [s0, s1, s4, v27, (.bool true), s7, s8, s9, s20] H) : R))
noncomputable def r124_4 (k : KT R) : KT R := fun fr H => opn 9 fr (fun s0 s1 s4 s5 s6 s7 s8 s9 s20 => 
(qBld z27 [] fun v21 =>
qSt 2 s4 v21 H fun _ H =>
k [s0, s1, s4, s1, (.bool false), s7, s8, s9, s20] H : R))
noncomputable def r124_3 (k : KT R) : KT R := fun fr H => opn 9 fr (fun s0 s1 s4 s5 s6 s7 s8 s9 s20 => 
(qNot s9 fun v20 =>
k [s0, s1, s4, s5, s6, s7, s8, s9, v20] H : R))
noncomputable def r124_2 (C : CallF) (k : KT R) : KT R := fun fr H => opn 9 fr (fun s0 s1 s4 s5 s6 s7 s8 s9 s20 => 
(qRes (C 138 [s7, (.int .i64 0)] H) fun v16 H =>
qExt v16 0 fun v17 =>
qExt v16 1 fun v18 =>
qNew (.cells z27) .ptr H fun v8 H =>
qSt 2 v8 v17 H fun _ H =>
k [s0, s1, s4, s5, s6, s7, v8, v18, s20] H : R))
noncomputable def r124_1 (k : KT R) : KT R := fun fr H => opn 9 fr (fun s0 s1 s4 s5 s6 s7 s8 s9 s20 => 
(qBld z64 [(0, 1, s0), (1, 1, s1)] fun v12 =>
qBox v12 H fun v13 H =>
k [s0, s1, s4, s5, s6, v13, s8, s9, s20] H : R))
noncomputable def r124_0 (k : KT R) : KT R := fun fr H => opn 9 fr (fun s0 s1 s4 s5 s6 s7 s8 s9 s20 => 
(qNew (.cells z27) .ptr H fun v4 H =>
k [s0, s1, v4, (.int .i64 0), (.bool false), s7, s8, s9, s20] H : R))
noncomputable def c124 (C : CallF) (l0 : List AV) (H : AH) (k : AV → AH → R) : R := opn 2 l0 (fun x0 x1 => (qFn (fun kr => (r124_0 (r124_1 (r124_2 C (r124_3 (qCd (sel 8) (fun _ => (r124_4 kr)) (fun k1 => k1) (r124_5 kr)))))))
(fun fr H => qPtr (sel 2 fr) (qLdA 2 (sel 2 fr) H fun w0 => k (.tup [w0, (sel 3 fr), (sel 4 fr)]) H)) [x0, x1, Aes.undef, Aes.undef, Aes.undef, Aes.undef, Aes.undef, Aes.undef, Aes.undef] H : R))
/- refectory/refectoryref08.number -/
noncomputable def r125_12 (k : KT R) : KT R := fun fr H => opn 9 fr (fun s0 s2 s3 s4 s5 s8 s13 s18 s30 => 
(k [s0, s3, s3, s4, s5, s8, s13, s18, s30] H : R))
noncomputable def r125_11 (k : KT R) : KT R := fun fr H => opn 9 fr (fun s0 s2 s3 s4 s5 s8 s13 s18 s30 => 
(qUn .neg s3 fun v32 =>
k [s0, v32, s3, s4, s5, s8, s13, s18, s30] H : R))
noncomputable def r125_10 (k : KT R) : KT R := fun fr H => opn 9 fr (fun s0 s2 s3 s4 s5 s8 s13 s18 s30 => 
(qEql X 3 s4 (.int .i64 1) fun v30 =>
k [s0, s2, s3, s4, s5, s8, s13, s18, v30] H : R))
noncomputable def r125_5 (k : KT R) : KT R := fun fr H => opn 9 fr (fun s0 s2 s3 s4 s5 s8 s13 s18 s30 => 
(k [s0, s2, (.int .i64 1000000), s4, s5, s8, s13, s18, s30] H : R))
noncomputable def r125_8 (k : KT R) : KT R := fun fr H => opn 9 fr (fun s0 s2 s3 s4 s5 s8 s13 s18 s30 => 
(qAdd X 3 s5 (.int .i64 1) fun v20 =>
k [s0, s2, s3, s4, v20, s8, s13, s18, s30] H : R))
noncomputable def r125_9 (k : KT R) : KT R := fun fr H => opn 9 fr (fun s0 s2 s3 s4 s5 s8 s13 s18 s30 => 
(qMul X 3 (.int .i64 10) s3 fun v22 =>
qIx s0 s5 fun v25 =>
qSub X 5 v25 (.int .u8 48) fun v26 =>
qConvI .i64 v26 fun v27 =>
qAdd X 3 v22 v27 fun v28 =>
k [s0, s2, v28, s4, s5, s8, s13, s18, s30] H : R))
noncomputable def r125_7 (k : KT R) : KT R := fun fr H => opn 9 fr (fun s0 s2 s3 s4 s5 s8 s13 s18 s30 => 
(qLenS s0 fun v17 =>
qLss X 3 s5 v17 fun v18 =>
k [s0, s2, s3, s4, s5, s8, s13, v18, s30] H : R))
noncomputable def l125_6 (k3 : KT R) : KT R → KT R := fun k4 => (r125_7 (qCd (sel 7) (fun k6 => k6) (fun _ => k3) (qBl (fun k5 => (r125_9 k5)) (r125_8 k4))))
noncomputable def r125_6 (k : KT R) : KT R := fun fr H => opn 9 fr (fun s0 s2 s3 s4 s5 s8 s13 s18 s30 => 
(k [s0, s2, s3, s4, s4, s8, s13, s18, s30] H : R))
noncomputable def r125_4 (k : KT R) : KT R := fun fr H => opn 9 fr (fun s0 s2 s3 s4 s5 s8 s13 s18 s30 => 
(qLenS s0 fun v10 =>
qSub X 3 v10 s4 fun v12 =>
qGtr X 3 v12 (.int .i64 6) fun v13 =>
k [s0, s2, s3, s4, s5, s8, v13, s18, s30] H : R))
noncomputable def r125_3 (k : KT R) : KT R := fun fr H => opn 9 fr (fun s0 s2 s3 s4 s5 s8 s13 s18 s30 => 
(k [s0, s2, s3, (.int .i64 1), s5, s8, s13, s18, s30] H : R))
noncomputable def r125_2 (k : KT R) : KT R := fun fr H => opn 9 fr (fun s0 s2 s3 s4 s5 s8 s13 s18 s30 => 
(qIx s0 (.int .i64 0) fun v7 =>
qEql X 5 v7 (.int .u8 45) fun v8 =>
k [s0, s2, s3, s4, s5, v8, s13, s18, s30] H : R))
noncomputable def r125_1 (k : KT R) : KT R := fun fr H => opn 9 fr (fun s0 s2 s3 s4 s5 s8 s13 s18 s30 => 
(k [s0, s2, (.int .i64 0), (.int .i64 0), s5, s8, s13, s18, s30] H : R))
noncomputable def r125_0 (k : KT R) : KT R := fun fr H => opn 9 fr (fun s0 s2 s3 s4 s5 s8 s13 s18 s30 => 
(k [s0, (.int .i64 0), s3, s4, s5, s8, s13, s18, s30] H : R))
noncomputable def c125 (C : CallF) (l0 : List AV) (H : AH) (k : AV → AH → R) : R := opn 1 l0 (fun x0 => (qFn (fun kr => (r125_0 (r125_1 (r125_2 (qCd (sel 5) (fun k7 => (r125_3 k7)) (fun k7 => k7) (r125_4 (qCd (sel 6) (fun k2 => (r125_5 k2)) (fun k2 => (r125_6 (qBl (fun k3 => (qLoop (l125_6 k3))) k2))) (r125_10 (qCd (sel 8) (fun _ => (r125_11 kr)) (fun k1 => k1) (r125_12 kr))))))))))
(fun fr H => k (sel 1 fr) H) [x0, Aes.undef, Aes.undef, Aes.undef, Aes.undef, Aes.undef, Aes.undef, Aes.undef, Aes.undef] H : R))
/- (*refectory/refectoryref05.P).Value -/
noncomputable def r126_15 (k : KT R) : KT R := fun fr H => opn 10 fr (fun s0 s1 s4 s5 s6 s13 s19 s49 s61 s68 => 
(qBld z127 [] fun v77 =>
qSt 4 s4 v77 H fun _ H =>
k [s0, s1, s4, s5, s6, s13, s19, s49, s61, s68] H : R))
noncomputable def r126_14 (C : CallF) (k : KT R) : KT R := fun fr H => opn 10 fr (fun s0 s1 s4 s5 s6 s13 s19 s49 s61 s68 => 
(qRes (C 69 [s0] H) fun v76 H =>
k [s0, s1, s4, s5, s6, s13, s19, s49, s61, s68] H : R))
noncomputable def r126_4 (C : CallF) (k : KT R) : KT R := fun fr H => opn 10 fr (fun s0 s1 s4 s5 s6 s13 s19 s49 s61 s68 => 
(qRes (C 70 [s0] H) fun v17 H =>
qRes (C 139 [v17] H) fun v18 H =>
qSt 4 s4 v18 H fun _ H =>
k [s0, s1, s4, s5, s6, s13, s19, s49, s61, s68] H : R))
noncomputable def r126_7 (k : KT R) : KT R := fun fr H => opn 10 fr (fun s0 s1 s4 s5 s6 s13 s19 s49 s61 s68 => 
(qBld z156 [(0, 1, (.int .i64 0)), (1, 1, (.int .i64 0)), (2, 1, (.int .i64 3)), (3, 1, (.int .i64 4)), (4, 1, (.int .i64 5))] fun v37 =>
qO (indexOf X 156 v37 s6) fun v39 =>
qNc s0 fun v41 =>
qFa 0 v41 fun v42 =>
qLd v42 H fun v43 =>
qIa 3 v43 s5 fun v45 =>
qFa 1 v45 fun v46 =>
qLd v46 H fun v47 =>
qBld z127 [(0, 1, v39), (1, 1, v47)] fun v48 =>
qSt 4 s4 v48 H fun _ H =>
k [s0, s1, s4, s5, s6, s13, s19, s49, s61, s68] H : R))
noncomputable def r126_6 (k : KT R) : KT R := fun fr H => opn 10 fr (fun s0 s1 s4 s5 s6 s13 s19 s49 s61 s68 => 
(qNc s0 fun v31 =>
qFa 1 v31 fun v32 =>
qLd v32 H fun v33 =>
qAdd X 3 v33 (.int .i64 1) fun v34 =>
qNc s0 fun v35 =>
qFa 1 v35 fun v36 =>
qSt 1 v36 v34 H fun _ H =>
k [s0, s1, s4, s5, s6, s13, s19, s49, s61, s68] H : R))
noncomputable def r126_9 (C : CallF) (k : KT R) : KT R := fun fr H => opn 10 fr (fun s0 s1 s4 s5 s6 s13 s19 s49 s61 s68 => 
(qRes (C 70 [s0] H) fun v59 H =>
qBld z127 [(0, 1, (.int .i64 9)), (1, 1, v59)] fun v60 =>
qSt 4 s4 v60 H fun _ H =>
k [s0, s1, s4, s5, s6, s13, s19, s49, s61, s68] H : R))
noncomputable def r126_11 (C : CallF) (k : KT R) : KT R := fun fr H => opn 10 fr (fun s0 s1 s4 s5 s6 s13 s19 s49 s61 s68 => 
(qRes (C 140 [s0, (.int .i64 7), (.str [93]), s1, s5] H) fun v67 H =>
qSt 4 s4 v67 H fun _ H =>
k [s0, s1, s4, s5, s6, s13, s19, s49, s61, s68] H : R))
noncomputable def r126_13 (C : CallF) (k : KT R) : KT R := fun fr H => opn 10 fr (fun s0 s1 s4 s5 s6 s13 s19 s49 s61 s68 => 
(qRes (C 140 [s0, (.int .i64 8), (.str [125]), s1, s5] H) fun v74 H =>
qSt 4 s4 v74 H fun _ H =>
k [s0, s1, s4, s5, s6, s13, s19, s49, s61, s68] H : R))
noncomputable def r126_12 (C : CallF) (k : KT R) : KT R := fun fr H => opn 10 fr (fun s0 s1 s4 s5 s6 s13 s19 s49 s61 s68 => 
(qRes (C 29 [s0, (.int .i64 5), (.str [123])] H) fun v70 H =>
k [s0, s1, s4, s5, s6, s13, s19, s49, s61, v70] H : R))
noncomputable def r126_10 (C : CallF) (k : KT R) : KT R := fun fr H => opn 10 fr (fun s0 s1 s4 s5 s6 s13 s19 s49 s61 s68 => 
(qRes (C 29 [s0, (.int .i64 5), (.str [91])] H) fun v63 H =>
k [s0, s1, s4, s5, s6, s13, s19, s49, v63, s68] H : R))
noncomputable def r126_8 (C : CallF) (k : KT R) : KT R := fun fr H => opn 10 fr (fun s0 s1 s4 s5 s6 s13 s19 s49 s61 s68 => 
(qNc s0 fun v51 =>
qFa 4 v51 fun v52 =>
qLd v52 H fun v53 =>
qG v53 true (fun k => k s0 H) H fun v55 H =>
qG v53 true (fun k => qRes (C 29 [v55, (.int .i64 5), (.str [36])] H) k) H fun v56 H =>
qPick v53 v56 (.bool false) fun v57 =>
k [s0, s1, s4, s5, s6, s13, s19, v57, s61, s68] H : R))
noncomputable def r126_5 (k : KT R) : KT R := fun fr H => opn 10 fr (fun s0 s1 s4 s5 s6 s13 s19 s49 s61 s68 => 
(qEql X 3 s6 (.int .i64 2) fun v21 =>
qG v21 false (fun k => k s6 H) H fun v23 H =>
qG v21 false (fun k => qEql X 3 v23 (.int .i64 3) fun v => k v H) H fun v24 H =>
qPick v21 (.bool true) v24 fun v25 =>
qG v25 false (fun k => k s6 H) H fun v27 H =>
qG v25 false (fun k => qEql X 3 v27 (.int .i64 4) fun v => k v H) H fun v28 H =>
qPick v25 (.bool true) v28 fun v29 =>
k [s0, s1, s4, s5, s6, s13, v29, s49, s61, s68] H : R))
noncomputable def r126_3 (k : KT R) : KT R := fun fr H => opn 10 fr (fun s0 s1 s4 s5 s6 s13 s19 s49 s61 s68 => 
(qEql X 3 s6 (.int .i64 1) fun v15 =>
k [s0, s1, s4, s5, s6, v15, s19, s49, s61, s68] H : R))
noncomputable def r126_2 (C : CallF) (k : KT R) : KT R := fun fr H => opn 10 fr (fun s0 s1 s4 s5 s6 s13 s19 s49 s61 s68 => 
(qRes (C 66 [s0] H) fun v12 H =>
k [s0, s1, s4, s5, v12, s13, s19, s49, s61, s68] H : R))
noncomputable def r126_1 (k : KT R) : KT R := fun fr H => opn 10 fr (fun s0 s1 s4 s5 s6 s13 s19 s49 s61 s68 => 
(qNc s0 fun v8 =>
qFa 1 v8 fun v9 =>
qLd v9 H fun v10 =>
k [s0, s1, s4, v10, s6, s13, s19, s49, s61, s68] H : R))
noncomputable def r126_0 (k : KT R) : KT R := fun fr H => opn 10 fr (fun s0 s1 s4 s5 s6 s13 s19 s49 s61 s68 => 
(qNew (.cells z127) .ptr H fun v4 H =>
k [s0, s1, v4, s5, s6, s13, s19, s49, s61, s68] H : R))
noncomputable def c126 (C : CallF) (l0 : List AV) (H : AH) (k : AV → AH → R) : R := opn 2 l0 (fun x0 x1 => (qFn (fun kr => (r126_0 (r126_1 (r126_2 C (qBl (fun k1 => (r126_3 (qCd (sel 5) (fun _ => (r126_4 C kr)) (fun k2 => (r126_5 (qCd (sel 6) (fun _ => (r126_6 (r126_7 kr))) (fun k3 => (r126_8 C (qCd (sel 7) (fun _ => (r126_9 C kr)) (fun k4 => (r126_10 C (qCd (sel 8) (fun _ => (r126_11 C kr)) (fun k5 => (r126_12 C (qCd (sel 9) (fun _ => (r126_13 C kr)) (fun k6 => k6) k5))) k4))) k3))) k2))) k1))) (r126_14 C (r126_15 kr)))))))
(fun fr H => qPtr (sel 2 fr) (qLdA 4 (sel 2 fr) H fun w0 => k w0 H)) [x0, x1, Aes.undef, Aes.undef, Aes.undef, Aes.undef, Aes.undef, Aes.undef, Aes.undef, Aes.undef] H : R))
/- strings.IndexRune -/
noncomputable def r129_35 (C : CallF) (k : KT R) : KT R := fun fr H => opn 33 fr (fun s0 s1 s4 s5 s6 s7 s8 s9 s10 s11 s12 s13 s14 s15 s16 s26 s33 s43 s51 s64 s98 s108 s124 s139 s143 s156 s160 s171 s175 s176 s177 s181 s183 => 
(qConvI .u8 s1 fun v169 =>
qRes (C 145 [s0, v169] H) fun v170 H =>
k [s0, s1, v170, s5, s6, s7, s8, s9, s10, s11, s12, s13, s14, s15, s16, s26, s33, s43, s51, s64, s98, s108, s124, s139, s143, s156, s160, s171, s175, s176, s177, s181, s183] H : R))
noncomputable def r129_42 (k : KT R) : KT R := fun fr H => opn 33 fr (fun s0 s1 s4 s5 s6 s7 s8 s9 s10 s11 s12 s13 s14 s15 s16 s26 s33 s43 s51 s64 s98 s108 s124 s139 s143 s156 s160 s171 s175 s176 s177 s181 s183 => 
(k [s0, s1, (.int .i64 (-1)), s5, s6, s7, s8, s9, s10, s11, s12, s13, s14, s15, s16, s26, s33, s43, s51, s64, s98, s108, s124, s139, s143, s156, s160, s171, s175, s176, s177, s181, s183] H : R))
noncomputable def r129_41 (k : KT R) : KT R := fun fr H => opn 33 fr (fun s0 s1 s4 s5 s6 s7 s8 s9 s10 s11 s12 s13 s14 s15 s16 s26 s33 s43 s51 s64 s98 s108 s124 s139 s143 s156 s160 s171 s175 s176 s177 s181 s183 => 
(k [s0, s1, s5, s5, s6, s7, s8, s9, s10, s11, s12, s13, s14, s15, s16, s26, s33, s43, s51, s64, s98, s108, s124, s139, s143, s156, s160, s171, s175, s176, s177, s181, s183] H : R))
noncomputable def r129_40 (k : KT R) : KT R := fun fr H => opn 33 fr (fun s0 s1 s4 s5 s6 s7 s8 s9 s10 s11 s12 s13 s14 s15 s16 s26 s33 s43 s51 s64 s98 s108 s124 s139 s143 s156 s160 s171 s175 s176 s177 s181 s183 => 
(qEql X 21 s6 (.int .i32 65533) fun v181 =>
k [s0, s1, s4, s5, s6, s7, s8, s9, s10, s11, s12, s13, s14, s15, s16, s26, s33, s43, s51, s64, s98, s108, s124, s139, s143, s156, s160, s171, s175, s176, s177, v181, s183] H : R))
noncomputable def r129_39 (k : KT R) : KT R := fun fr H => opn 33 fr (fun s0 s1 s4 s5 s6 s7 s8 s9 s10 s11 s12 s13 s14 s15 s16 s26 s33 s43 s51 s64 s98 s108 s124 s139 s143 s156 s160 s171 s175 s176 s177 s181 s183 => 
(qExt s176 1 fun v178 =>
qExt s176 2 fun v179 =>
k [s0, s1, s4, v178, v179, s7, s8, s9, s10, s11, s12, s13, s14, s15, s16, s26, s33, s43, s51, s64, s98, s108, s124, s139, s143, s156, s160, s171, s175, s176, s177, s181, s183] H : R))
noncomputable def r129_38 (k : KT R) : KT R := fun fr H => opn 33 fr (fun s0 s1 s4 s5 s6 s7 s8 s9 s10 s11 s12 s13 s14 s15 s16 s26 s33 s43 s51 s64 s98 s108 s124 s139 s143 s156 s160 s171 s175 s176 s177 s181 s183 => 
(qNext s175 H fun v176 H =>
qExt v176 0 fun v177 =>
k [s0, s1, s4, s5, s6, s7, s8, s9, s10, s11, s12, s13, s14, s15, s16, s26, s33, s43, s51, s64, s98, s108, s124, s139, s143, s156, s160, s171, s175, v176, v177, s181, s183] H : R))
noncomputable def l129_8 (k4 : KT R) (kr : KT R) : KT R → KT R := fun k5 => (r129_38 (qCd (sel 30) (fun k8 => k8) (fun _ => k4) (qBl (fun k6 => (r129_39 (r129_40 (qCd (sel 31) (fun _ => (r129_41 kr)) (fun k7 => k7) k6)))) k5)))
noncomputable def r129_37 (k : KT R) : KT R := fun fr H => opn 33 fr (fun s0 s1 s4 s5 s6 s7 s8 s9 s10 s11 s12 s13 s14 s15 s16 s26 s33 s43 s51 s64 s98 s108 s124 s139 s143 s156 s160 s171 s175 s176 s177 s181 s183 => 
(qRange s0 H fun v175 H =>
k [s0, s1, s4, s5, s6, s7, s8, s9, s10, s11, s12, s13, s14, s15, s16, s26, s33, s43, s51, s64, s98, s108, s124, s139, s143, s156, s160, s171, v175, s176, s177, s181, s183] H : R))
noncomputable def r129_44 (k : KT R) : KT R := fun fr H => opn 33 fr (fun s0 s1 s4 s5 s6 s7 s8 s9 s10 s11 s12 s13 s14 s15 s16 s26 s33 s43 s51 s64 s98 s108 s124 s139 s143 s156 s160 s171 s175 s176 s177 s181 s183 => 
(k [s0, s1, (.int .i64 (-1)), s5, s6, s7, s8, s9, s10, s11, s12, s13, s14, s15, s16, s26, s33, s43, s51, s64, s98, s108, s124, s139, s143, s156, s160, s171, s175, s176, s177, s181, s183] H : R))
noncomputable def r129_33 (k : KT R) : KT R := fun fr H => opn 33 fr (fun s0 s1 s4 s5 s6 s7 s8 s9 s10 s11 s12 s13 s14 s15 s16 s26 s33 s43 s51 s64 s98 s108 s124 s139 s143 s156 s160 s171 s175 s176 s177 s181 s183 => 
(k [s0, s1, (.int .i64 (-1)), s5, s6, s7, s8, s9, s10, s11, s12, s13, s14, s15, s16, s26, s33, s43, s51, s64, s98, s108, s124, s139, s143, s156, s160, s171, s175, s176, s177, s181, s183] H : R))
noncomputable def r129_22 (k : KT R) : KT R := fun fr H => opn 33 fr (fun s0 s1 s4 s5 s6 s7 s8 s9 s10 s11 s12 s13 s14 s15 s16 s26 s33 s43 s51 s64 s98 s108 s124 s139 s143 s156 s160 s171 s175 s176 s177 s181 s183 => 
(qAdd X 3 s9 s13 fun v111 =>
qSub X 3 v111 s8 fun v113 =>
k [s0, s1, v113, s5, s6, s7, s8, s9, s10, s11, s12, s13, s14, s15, s16, s26, s33, s43, s51, s64, s98, s108, s124, s139, s143, s156, s160, s171, s175, s176, s177, s181, s183] H : R))
noncomputable def r129_21 (k : KT R) : KT R := fun fr H => opn 33 fr (fun s0 s1 s4 s5 s6 s7 s8 s9 s10 s11 s12 s13 s14 s15 s16 s26 s33 s43 s51 s64 s98 s108 s124 s139 s143 s156 s160 s171 s175 s176 s177 s181 s183 => 
(qGeq X 3 s13 (.int .i64 0) fun v108 =>
k [s0, s1, s4, s5, s6, s7, s8, s9, s10, s11, s12, s13, s14, s15, s16, s26, s33, s43, s51, s64, s98, v108, s124, s139, s143, s156, s160, s171, s175, s176, s177, s181, s183] H : R))
noncomputable def r129_20 (C : CallF) (k : KT R) : KT R := fun fr H => opn 33 fr (fun s0 s1 s4 s5 s6 s7 s8 s9 s10 s11 s12 s13 s14 s15 s16 s26 s33 s43 s51 s64 s98 s108 s124 s139 s143 s156 s160 s171 s175 s176 s177 s181 s183 => 
(qSub X 3 s9 s8 fun v102 =>
qSlc Tryz.t9.desc 0 s0 (some v102) none none fun v103 =>
qO (conv X 21 9 s1) fun v105 =>
qRes (C 132 [v103, v105] H) fun v106 H =>
k [s0, s1, s4, s5, s6, s7, s8, s9, s10, s11, s12, v106, s14, s15, s16, s26, s33, s43, s51, s64, s98, s108, s124, s139, s143, s156, s160, s171, s175, s176, s177, s181, s183] H : R))
noncomputable def r129_26 (k : KT R) : KT R := fun fr H => opn 33 fr (fun s0 s1 s4 s5 s6 s7 s8 s9 s10 s11 s12 s13 s14 s15 s16 s26 s33 s43 s51 s64 s98 s108 s124 s139 s143 s156 s160 s171 s175 s176 s177 s181 s183 => 
(qAdd X 3 s9 (.int .i64 1) fun v126 =>
k [s0, s1, s4, s5, s6, s7, s8, v126, s10, s11, s12, s13, s14, s15, s16, s26, s33, s43, s51, s64, s98, s108, s124, s139, s143, s156, s160, s171, s175, s176, s177, s181, s183] H : R))
noncomputable def r129_32 (k : KT R) : KT R := fun fr H => opn 33 fr (fun s0 s1 s4 s5 s6 s7 s8 s9 s10 s11 s12 s13 s14 s15 s16 s26 s33 s43 s51 s64 s98 s108 s124 s139 s143 s156 s160 s171 s175 s176 s177 s181 s183 => 
(qSub X 3 s9 s8 fun v159 =>
k [s0, s1, v159, s5, s6, s7, s8, s9, s10, s11, s12, s13, s14, s15, s16, s26, s33, s43, s51, s64, s98, s108, s124, s139, s143, s156, s160, s171, s175, s176, s177, s181, s183] H : R))
noncomputable def r129_30 (k : KT R) : KT R := fun fr H => opn 33 fr (fun s0 s1 s4 s5 s6 s7 s8 s9 s10 s11 s12 s13 s14 s15 s16 s26 s33 s43 s51 s64 s98 s108 s124 s139 s143 s156 s160 s171 s175 s176 s177 s181 s183 => 
(qAdd X 3 s16 (.int .i64 1) fun v145 =>
k [s0, s1, s4, s5, s6, s7, s8, s9, s10, s11, s12, s13, s14, s15, v145, s26, s33, s43, s51, s64, s98, s108, s124, s139, s143, s156, s160, s171, s175, s176, s177, s181, s183] H : R))
noncomputable def r129_31 (k : KT R) : KT R := fun fr H => opn 33 fr (fun s0 s1 s4 s5 s6 s7 s8 s9 s10 s11 s12 s13 s14 s15 s16 s26 s33 s43 s51 s64 s98 s108 s124 s139 s143 s156 s160 s171 s175 s176 s177 s181 s183 => 
(qSub X 3 s9 s16 fun v149 =>
qIx s0 v149 fun v150 =>
qSub X 3 s8 s16 fun v154 =>
qIx s7 v154 fun v155 =>
qNeq X 5 v150 v155 fun v156 =>
k [s0, s1, s4, s5, s6, s7, s8, s9, s10, s11, s12, s13, s14, s15, s16, s26, s33, s43, s51, s64, s98, s108, s124, s139, s143, v156, s160, s171, s175, s176, s177, s181, s183] H : R))
noncomputable def r129_29 (k : KT R) : KT R := fun fr H => opn 33 fr (fun s0 s1 s4 s5 s6 s7 s8 s9 s10 s11 s12 s13 s14 s15 s16 s26 s33 s43 s51 s64 s98 s108 s124 s139 s143 s156 s160 s171 s175 s176 s177 s181 s183 => 
(qLenS s7 fun v142 =>
qLss X 3 s16 v142 fun v143 =>
k [s0, s1, s4, s5, s6, s7, s8, s9, s10, s11, s12, s13, s14, s15, s16, s26, s33, s43, s51, s64, s98, s108, s124, s139, v143, s156, s160, s171, s175, s176, s177, s181, s183] H : R))
noncomputable def l129_20 (k14 : KT R) (k16 : KT R) : KT R → KT R := fun k17 => (r129_29 (qCd (sel 24) (fun k20 => k20) (fun _ => k16) (qBl (fun k18 => (r129_31 (qCd (sel 25) (fun _ => k14) (fun k19 => k19) k18))) (r129_30 k17))))
noncomputable def r129_28 (k : KT R) : KT R := fun fr H => opn 33 fr (fun s0 s1 s4 s5 s6 s7 s8 s9 s10 s11 s12 s13 s14 s15 s16 s26 s33 s43 s51 s64 s98 s108 s124 s139 s143 s156 s160 s171 s175 s176 s177 s181 s183 => 
(k [s0, s1, s4, s5, s6, s7, s8, s9, s10, s11, s12, s13, s14, s15, (.int .i64 2), s26, s33, s43, s51, s64, s98, s108, s124, s139, s143, s156, s160, s171, s175, s176, s177, s181, s183] H : R))
noncomputable def r129_27 (k : KT R) : KT R := fun fr H => opn 33 fr (fun s0 s1 s4 s5 s6 s7 s8 s9 s10 s11 s12 s13 s14 s15 s16 s26 s33 s43 s51 s64 s98 s108 s124 s139 s143 s156 s160 s171 s175 s176 s177 s181 s183 => 
(qIx s0 s9 fun v129 =>
qEql X 5 v129 s14 fun v131 =>
qG v131 true (fun k => k s0 H) H fun v133 H =>
qG v131 true (fun k => k s9 H) H fun v134 H =>
qG v131 true (fun k => qSub X 3 v134 (.int .i64 1) fun v => k v H) H fun v135 H =>
qG v131 true (fun k => qIx v133 v135 fun v => k v H) H fun v136 H =>
qG v131 true (fun k => k s15 H) H fun v137 H =>
qG v131 true (fun k => qEql X 5 v136 v137 fun v => k v H) H fun v138 H =>
qPick v131 v138 (.bool false) fun v139 =>
k [s0, s1, s4, s5, s6, s7, s8, s9, s10, s11, s12, s13, s14, s15, s16, s26, s33, s43, s51, s64, s98, s108, s124, v139, s143, s156, s160, s171, s175, s176, s177, s181, s183] H : R))
noncomputable def r129_25 (k : KT R) : KT R := fun fr H => opn 33 fr (fun s0 s1 s4 s5 s6 s7 s8 s9 s10 s11 s12 s13 s14 s15 s16 s26 s33 s43 s51 s64 s98 s108 s124 s139 s143 s156 s160 s171 s175 s176 s177 s181 s183 => 
(qLenS s0 fun v123 =>
qLss X 3 s9 v123 fun v124 =>
k [s0, s1, s4, s5, s6, s7, s8, s9, s10, s11, s12, s13, s14, s15, s16, s26, s33, s43, s51, s64, s98, s108, v124, s139, s143, s156, s160, s171, s175, s176, s177, s181, s183] H : R))
noncomputable def l129_21 (k12 : KT R) (kr : KT R) : KT R → KT R := fun k13 => (r129_25 (qCd (sel 22) (fun k21 => k21) (fun _ => k12) (qBl (fun k14 => (r129_27 (qCd (sel 23) (fun _ => (r129_28 (qBl (fun k16 => (qLoop (l129_20 k14 k16))) (r129_32 kr)))) (fun k15 => k15) k14))) (r129_26 k13))))
noncomputable def r129_24 (k : KT R) : KT R := fun fr H => opn 33 fr (fun s0 s1 s4 s5 s6 s7 s8 s9 s10 s11 s12 s13 s14 s15 s16 s26 s33 s43 s51 s64 s98 s108 s124 s139 s143 s156 s160 s171 s175 s176 s177 s181 s183 => 
(qSub X 3 s8 (.int .i64 1) fun v119 =>
qIx s7 v119 fun v120 =>
k [s0, s1, s4, s5, s6, s7, s8, s9, s10, s11, s12, s13, s14, v120, s16, s26, s33, s43, s51, s64, s98, s108, s124, s139, s143, s156, s160, s171, s175, s176, s177, s181, s183] H : R))
noncomputable def r129_23 (k : KT R) : KT R := fun fr H => opn 33 fr (fun s0 s1 s4 s5 s6 s7 s8 s9 s10 s11 s12 s13 s14 s15 s16 s26 s33 s43 s51 s64 s98 s108 s124 s139 s143 s156 s160 s171 s175 s176 s177 s181 s183 => 
(qIx s7 s8 fun v116 =>
k [s0, s1, s4, s5, s6, s7, s8, s9, s10, s11, s12, s13, v116, s15, s16, s26, s33, s43, s51, s64, s98, s108, s124, s139, s143, s156, s160, s171, s175, s176, s177, s181, s183] H : R))
noncomputable def r129_19 (k : KT R) : KT R := fun fr H => opn 33 fr (fun s0 s1 s4 s5 s6 s7 s8 s9 s10 s11 s12 s13 s14 s15 s16 s26 s33 s43 s51 s64 s98 s108 s124 s139 s143 s156 s160 s171 s175 s176 s177 s181 s183 => 
(k [s0, s1, (.int .i64 (-1)), s5, s6, s7, s8, s9, s10, s11, s12, s13, s14, s15, s16, s26, s33, s43, s51, s64, s98, s108, s124, s139, s143, s156, s160, s171, s175, s176, s177, s181, s183] H : R))
noncomputable def r129_18 (C : CallF) (k : KT R) : KT R := fun fr H => opn 33 fr (fun s0 s1 s4 s5 s6 s7 s8 s9 s10 s11 s12 s13 s14 s15 s16 s26 s33 s43 s51 s64 s98 s108 s124 s139 s143 s156 s160 s171 s175 s176 s177 s181 s183 => 
(qG (.bool true) true (fun k => k s10 H) H fun v73 H =>
qG (.bool true) true (fun k => k s9 H) H fun v74 H =>
qG (.bool true) true (fun k => qRes (C 133 [v74] H) k) H fun v75 H =>
qG (.bool true) true (fun k => qGtr X 3 v73 v75 fun v => k v H) H fun v76 H =>
qPick (.bool true) v76 (.bool false) fun v77 =>
qG v77 true (fun k => k s9 H) H fun v79 H =>
qG v77 true (fun k => k s0 H) H fun v80 H =>
qG v77 true (fun k => qLenS v80 fun v => k v H) H fun v81 H =>
qG v77 true (fun k => qLss X 3 v79 v81 fun v => k v H) H fun v82 H =>
qPick v77 v82 (.bool false) fun v83 =>
qG v83 false (fun k => k (.bool false) H) H fun v85 H =>
qG v85 true (fun k => k s10 H) H fun v86 H =>
qG v85 true (fun k => k s9 H) H fun v87 H =>
qG v85 true (fun k => qO (binop X .shr 3 v87 (.int .u64 4)) fun v => k v H) H fun v88 H =>
qG v85 true (fun k => qAdd X 3 (.int .i64 4) v88 fun v => k v H) H fun v89 H =>
qG v85 true (fun k => qGeq X 3 v86 v89 fun v => k v H) H fun v90 H =>
qG v83 false (fun k => qPick v85 v90 (.bool false) fun v => k v H) H fun v91 H =>
qG v83 false (fun k => k v91 H) H fun v92 H =>
qG v92 true (fun k => k s9 H) H fun v93 H =>
qG v92 true (fun k => k s0 H) H fun v94 H =>
qG v92 true (fun k => qLenS v94 fun v => k v H) H fun v95 H =>
qG v92 true (fun k => qLss X 3 v93 v95 fun v => k v H) H fun v96 H =>
qG v83 false (fun k => qPick v92 v96 (.bool false) fun v => k v H) H fun v97 H =>
qPick v83 (.bool true) v97 fun v98 =>
k [s0, s1, s4, s5, s6, s7, s8, s9, s10, s11, s12, s13, s14, s15, s16, s26, s33, s43, s51, s64, v98, s108, s124, s139, s143, s156, s160, s171, s175, s176, s177, s181, s183] H : R))
noncomputable def r129_17 (k : KT R) : KT R := fun fr H => opn 33 fr (fun s0 s1 s4 s5 s6 s7 s8 s9 s10 s11 s12 s13 s14 s15 s16 s26 s33 s43 s51 s64 s98 s108 s124 s139 s143 s156 s160 s171 s175 s176 s177 s181 s183 => 
(qAdd X 3 s9 (.int .i64 1) fun v71 =>
k [s0, s1, s4, s5, s6, s7, s8, v71, s10, s11, s12, s13, s14, s15, s16, s26, s33, s43, s51, s64, s98, s108, s124, s139, s143, s156, s160, s171, s175, s176, s177, s181, s183] H : R))
noncomputable def r129_16 (k : KT R) : KT R := fun fr H => opn 33 fr (fun s0 s1 s4 s5 s6 s7 s8 s9 s10 s11 s12 s13 s14 s15 s16 s26 s33 s43 s51 s64 s98 s108 s124 s139 s143 s156 s160 s171 s175 s176 s177 s181 s183 => 
(qAdd X 3 s10 (.int .i64 1) fun v69 =>
k [s0, s1, s4, s5, s6, s7, s8, s9, v69, s11, s12, s13, s14, s15, s16, s26, s33, s43, s51, s64, s98, s108, s124, s139, s143, s156, s160, s171, s175, s176, s177, s181, s183] H : R))
noncomputable def r129_15 (k : KT R) : KT R := fun fr H => opn 33 fr (fun s0 s1 s4 s5 s6 s7 s8 s9 s10 s11 s12 s13 s14 s15 s16 s26 s33 s43 s51 s64 s98 s108 s124 s139 s143 s156 s160 s171 s175 s176 s177 s181 s183 => 
(qSub X 3 s9 s8 fun v67 =>
k [s0, s1, v67, s5, s6, s7, s8, s9, s10, s11, s12, s13, s14, s15, s16, s26, s33, s43, s51, s64, s98, s108, s124, s139, s143, s156, s160, s171, s175, s176, s177, s181, s183] H : R))
noncomputable def r129_13 (k : KT R) : KT R := fun fr H => opn 33 fr (fun s0 s1 s4 s5 s6 s7 s8 s9 s10 s11 s12 s13 s14 s15 s16 s26 s33 s43 s51 s64 s98 s108 s124 s139 s143 s156 s160 s171 s175 s176 s177 s181 s183 => 
(qAdd X 3 s12 (.int .i64 1) fun v53 =>
k [s0, s1, s4, s5, s6, s7, s8, s9, s10, s11, v53, s13, s14, s15, s16, s26, s33, s43, s51, s64, s98, s108, s124, s139, s143, s156, s160, s171, s175, s176, s177, s181, s183] H : R))
noncomputable def r129_14 (k : KT R) : KT R := fun fr H => opn 33 fr (fun s0 s1 s4 s5 s6 s7 s8 s9 s10 s11 s12 s13 s14 s15 s16 s26 s33 s43 s51 s64 s98 s108 s124 s139 s143 s156 s160 s171 s175 s176 s177 s181 s183 => 
(qSub X 3 s9 s12 fun v57 =>
qIx s0 v57 fun v58 =>
qSub X 3 s8 s12 fun v62 =>
qIx s7 v62 fun v63 =>
qNeq X 5 v58 v63 fun v64 =>
k [s0, s1, s4, s5, s6, s7, s8, s9, s10, s11, s12, s13, s14, s15, s16, s26, s33, s43, s51, v64, s98, s108, s124, s139, s143, s156, s160, s171, s175, s176, s177, s181, s183] H : R))
noncomputable def r129_12 (k : KT R) : KT R := fun fr H => opn 33 fr (fun s0 s1 s4 s5 s6 s7 s8 s9 s10 s11 s12 s13 s14 s15 s16 s26 s33 s43 s51 s64 s98 s108 s124 s139 s143 s156 s160 s171 s175 s176 s177 s181 s183 => 
(qLenS s7 fun v50 =>
qLss X 3 s12 v50 fun v51 =>
k [s0, s1, s4, s5, s6, s7, s8, s9, s10, s11, s12, s13, s14, s15, s16, s26, s33, s43, v51, s64, s98, s108, s124, s139, s143, s156, s160, s171, s175, s176, s177, s181, s183] H : R))
noncomputable def l129_30 (k26 : KT R) : KT R → KT R := fun k27 => (r129_12 (qCd (sel 18) (fun k30 => k30) (fun _ => k26) (qBl (fun k28 => (r129_14 (qCd (sel 19) (fun _ => (fun _ _ => fail)) (fun k29 => k29) k28))) (r129_13 k27))))
noncomputable def r129_11 (k : KT R) : KT R := fun fr H => opn 33 fr (fun s0 s1 s4 s5 s6 s7 s8 s9 s10 s11 s12 s13 s14 s15 s16 s26 s33 s43 s51 s64 s98 s108 s124 s139 s143 s156 s160 s171 s175 s176 s177 s181 s183 => 
(k [s0, s1, s4, s5, s6, s7, s8, s9, s10, s11, (.int .i64 1), s13, s14, s15, s16, s26, s33, s43, s51, s64, s98, s108, s124, s139, s143, s156, s160, s171, s175, s176, s177, s181, s183] H : R))
noncomputable def r129_10 (k : KT R) : KT R := fun fr H => opn 33 fr (fun s0 s1 s4 s5 s6 s7 s8 s9 s10 s11 s12 s13 s14 s15 s16 s26 s33 s43 s51 s64 s98 s108 s124 s139 s143 s156 s160 s171 s175 s176 s177 s181 s183 => 
(qAdd X 3 s11 (.int .i64 1) fun v46 =>
qAdd X 3 s9 v46 fun v47 =>
k [s0, s1, s4, s5, s6, s7, s8, v47, s10, s11, s12, s13, s14, s15, s16, s26, s33, s43, s51, s64, s98, s108, s124, s139, s143, s156, s160, s171, s175, s176, s177, s181, s183] H : R))
noncomputable def r129_9 (k : KT R) : KT R := fun fr H => opn 33 fr (fun s0 s1 s4 s5 s6 s7 s8 s9 s10 s11 s12 s13 s14 s15 s16 s26 s33 s43 s51 s64 s98 s108 s124 s139 s143 s156 s160 s171 s175 s176 s177 s181 s183 => 
(k [s0, s1, (.int .i64 (-1)), s5, s6, s7, s8, s9, s10, s11, s12, s13, s14, s15, s16, s26, s33, s43, s51, s64, s98, s108, s124, s139, s143, s156, s160, s171, s175, s176, s177, s181, s183] H : R))
noncomputable def r129_8 (k : KT R) : KT R := fun fr H => opn 33 fr (fun s0 s1 s4 s5 s6 s7 s8 s9 s10 s11 s12 s13 s14 s15 s16 s26 s33 s43 s51 s64 s98 s108 s124 s139 s143 s156 s160 s171 s175 s176 s177 s181 s183 => 
(qLss X 3 s11 (.int .i64 0) fun v43 =>
k [s0, s1, s4, s5, s6, s7, s8, s9, s10, s11, s12, s13, s14, s15, s16, s26, s33, v43, s51, s64, s98, s108, s124, s139, s143, s156, s160, s171, s175, s176, s177, s181, s183] H : R))
noncomputable def r129_7 (C : CallF) (k : KT R) : KT R := fun fr H => opn 33 fr (fun s0 s1 s4 s5 s6 s7 s8 s9 s10 s11 s12 s13 s14 s15 s16 s26 s33 s43 s51 s64 s98 s108 s124 s139 s143 s156 s160 s171 s175 s176 s177 s181 s183 => 
(qAdd X 3 s9 (.int .i64 1) fun v36 =>
qSlc Tryz.t9.desc 0 s0 (some v36) none none fun v37 =>
qIx s7 s8 fun v40 =>
qRes (C 145 [v37, v40] H) fun v41 H =>
k [s0, s1, s4, s5, s6, s7, s8, s9, s10, v41, s12, s13, s14, s15, s16, s26, s33, s43, s51, s64, s98, s108, s124, s139, s143, s156, s160, s171, s175, s176, s177, s181, s183] H : R))
noncomputable def r129_6 (k : KT R) : KT R := fun fr H => opn 33 fr (fun s0 s1 s4 s5 s6 s7 s8 s9 s10 s11 s12 s13 s14 s15 s16 s26 s33 s43 s51 s64 s98 s108 s124 s139 s143 s156 s160 s171 s175 s176 s177 s181 s183 => 
(qIx s0 s9 fun v29 =>
qIx s7 s8 fun v32 =>
qNeq X 5 v29 v32 fun v33 =>
k [s0, s1, s4, s5, s6, s7, s8, s9, s10, s11, s12, s13, s14, s15, s16, s26, v33, s43, s51, s64, s98, s108, s124, s139, s143, s156, s160, s171, s175, s176, s177, s181, s183] H : R))
noncomputable def r129_5 (k : KT R) : KT R := fun fr H => opn 33 fr (fun s0 s1 s4 s5 s6 s7 s8 s9 s10 s11 s12 s13 s14 s15 s16 s26 s33 s43 s51 s64 s98 s108 s124 s139 s143 s156 s160 s171 s175 s176 s177 s181 s183 => 
(qLenS s0 fun v25 =>
qLss X 3 s9 v25 fun v26 =>
k [s0, s1, s4, s5, s6, s7, s8, s9, s10, s11, s12, s13, s14, s15, s16, v26, s33, s43, s51, s64, s98, s108, s124, s139, s143, s156, s160, s171, s175, s176, s177, s181, s183] H : R))
noncomputable def l129_33 (C : CallF) (k22 : KT R) (kr : KT R) : KT R → KT R := fun k23 => (r129_5 (qCd (sel 15) (fun k33 => k33) (fun _ => k22) (qBl (fun k24 => (r129_6 (qCd (sel 16) (fun k31 => (r129_7 C (r129_8 (qCd (sel 17) (fun _ => (r129_9 kr)) (fun k32 => k32) (r129_10 k31))))) (fun k31 => k31) (r129_11 (qBl (fun k26 => (qLoop (l129_30 k26))) (r129_15 kr)))))) k23)))
noncomputable def r129_4 (k : KT R) : KT R := fun fr H => opn 33 fr (fun s0 s1 s4 s5 s6 s7 s8 s9 s10 s11 s12 s13 s14 s15 s16 s26 s33 s43 s51 s64 s98 s108 s124 s139 s143 s156 s160 s171 s175 s176 s177 s181 s183 => 
(k [s0, s1, s4, s5, s6, s7, s8, s9, (.int .i64 0), s11, s12, s13, s14, s15, s16, s26, s33, s43, s51, s64, s98, s108, s124, s139, s143, s156, s160, s171, s175, s176, s177, s181, s183] H : R))
noncomputable def r129_3 (k : KT R) : KT R := fun fr H => opn 33 fr (fun s0 s1 s4 s5 s6 s7 s8 s9 s10 s11 s12 s13 s14 s15 s16 s26 s33 s43 s51 s64 s98 s108 s124 s139 s143 s156 s160 s171 s175 s176 s177 s181 s183 => 
(k [s0, s1, s4, s5, s6, s7, s8, s8, s10, s11, s12, s13, s14, s15, s16, s26, s33, s43, s51, s64, s98, s108, s124, s139, s143, s156, s160, s171, s175, s176, s177, s181, s183] H : R))
noncomputable def r129_2 (k : KT R) : KT R := fun fr H => opn 33 fr (fun s0 s1 s4 s5 s6 s7 s8 s9 s10 s11 s12 s13 s14 s15 s16 s26 s33 s43 s51 s64 s98 s108 s124 s139 s143 s156 s160 s171 s175 s176 s177 s181 s183 => 
(qLenS s7 fun v20 =>
qSub X 3 v20 (.int .i64 1) fun v21 =>
k [s0, s1, s4, s5, s6, s7, v21, s9, s10, s11, s12, s13, s14, s15, s16, s26, s33, s43, s51, s64, s98, s108, s124, s139, s143, s156, s160, s171, s175, s176, s177, s181, s183] H : R))
noncomputable def r129_1 (k : KT R) : KT R := fun fr H => opn 33 fr (fun s0 s1 s4 s5 s6 s7 s8 s9 s10 s11 s12 s13 s14 s15 s16 s26 s33 s43 s51 s64 s98 s108 s124 s139 s143 s156 s160 s171 s175 s176 s177 s181 s183 => 
(qO (conv X 21 9 s1) fun v18 =>
k [s0, s1, s4, s5, s6, v18, s8, s9, s10, s11, s12, s13, s14, s15, s16, s26, s33, s43, s51, s64, s98, s108, s124, s139, s143, s156, s160, s171, s175, s176, s177, s181, s183] H : R))
noncomputable def r129_43 (C : CallF) (k : KT R) : KT R := fun fr H => opn 33 fr (fun s0 s1 s4 s5 s6 s7 s8 s9 s10 s11 s12 s13 s14 s15 s16 s26 s33 s43 s51 s64 s98 s108 s124 s139 s143 s156 s160 s171 s175 s176 s177 s181 s183 => 
(qRes (C 146 [s1] H) fun v185 H =>
qNot v185 fun v186 =>
k [s0, s1, s4, s5, s6, s7, s8, s9, s10, s11, s12, s13, s14, s15, s16, s26, s33, s43, s51, s64, s98, s108, s124, s139, s143, s156, s160, s171, s175, s176, s177, s181, v186] H : R))
noncomputable def r129_36 (k : KT R) : KT R := fun fr H => opn 33 fr (fun s0 s1 s4 s5 s6 s7 s8 s9 s10 s11 s12 s13 s14 s15 s16 s26 s33 s43 s51 s64 s98 s108 s124 s139 s143 s156 s160 s171 s175 s176 s177 s181 s183 => 
(qEql X 21 s1 (.int .i32 65533) fun v173 =>
k [s0, s1, s4, s5, s6, s7, s8, s9, s10, s11, s12, s13, s14, s15, s16, s26, s33, s43, s51, s64, s98, s108, s124, s139, s143, s156, s160, v173, s175, s176, s177, s181, s183] H : R))
noncomputable def r129_34 (k : KT R) : KT R := fun fr H => opn 33 fr (fun s0 s1 s4 s5 s6 s7 s8 s9 s10 s11 s12 s13 s14 s15 s16 s26 s33 s43 s51 s64 s98 s108 s124 s139 s143 s156 s160 s171 s175 s176 s177 s181 s183 => 
(qLeq X 21 (.int .i32 0) s1 fun v162 =>
qG v162 true (fun k => k s1 H) H fun v164 H =>
qG v162 true (fun k => qLss X 21 v164 (.int .i32 128) fun v => k v H) H fun v165 H =>
qPick v162 v165 (.bool false) fun v166 =>
k [s0, s1, s4, s5, s6, s7, s8, s9, s10, s11, s12, s13, s14, s15, s16, s26, s33, s43, s51, s64, s98, s108, s124, s139, s143, s156, v166, s171, s175, s176, s177, s181, s183] H : R))
noncomputable def r129_0 (k : KT R) : KT R := fun fr H => opn 33 fr (fun s0 s1 s4 s5 s6 s7 s8 s9 s10 s11 s12 s13 s14 s15 s16 s26 s33 s43 s51 s64 s98 s108 s124 s139 s143 s156 s160 s171 s175 s176 s177 s181 s183 => 
(k [s0, s1, (.int .i64 0), s5, s6, s7, s8, s9, s10, s11, s12, s13, s14, s15, s16, s26, s33, s43, s51, s64, s98, s108, s124, s139, s143, s156, s160, s171, s175, s176, s177, s181, s183] H : R))
noncomputable def c129 (C : CallF) (l0 : List AV) (H : AH) (k : AV → AH → R) : R := opn 2 l0 (fun x0 x1 => (qFn (fun kr => (r129_0 (qBl (fun k1 => (r129_34 (qCd (sel 26) (fun _ => (r129_35 C kr)) (fun k2 => (r129_36 (qCd (sel 27) (fun _ => (r129_37 (qBl (fun k4 => (qLoop (l129_8 k4 kr))) (r129_42 kr)))) (fun k3 => (r129_43 C (qCd (sel 32) (fun _ => (r129_44 kr)) (fun _ => (r129_1 (r129_2 (r129_3 (r129_4 (qBl (fun k22 => (qLoop (l129_33 C k22 kr))) (r129_19 kr))))))) k3))) k2))) k1))) kr)))
(fun fr H => k (sel 2 fr) H) [x0, x1, Aes.undef, Aes.undef, Aes.undef, Aes.undef, Aes.undef, Aes.undef, Aes.undef, Aes.undef, Aes.undef, Aes.undef, Aes.undef, Aes.undef, Aes.undef, Aes.undef, Aes.undef, Aes.undef, Aes.undef, Aes.undef, Aes.undef, Aes.undef, Aes.undef, Aes.undef, Aes.undef, Aes.undef, Aes.undef, Aes.undef, Aes.undef, Aes.undef, Aes.undef, Aes.undef, Aes.undef] H : R))
/- unicode/utf8.RuneStart -/
noncomputable def r130_1 (k : KT R) : KT R := fun fr H => opn 2 fr (fun s0 s2 => 
(qO (binop X .and 5 s0 (.int .u8 192)) fun v4 =>
qNeq X 5 v4 (.int .u8 128) fun v5 =>
k [s0, v5] H : R))
noncomputable def r130_0 (k : KT R) : KT R := fun fr H => opn 2 fr (fun s0 s2 => 
(k [s0, (.bool false)] H : R))
noncomputable def c130 (C : CallF) (l0 : List AV) (H : AH) (k : AV → AH → R) : R := opn 1 l0 (fun x0 => (qFn (fun kr => (r130_0 (r130_1 kr)))
(fun fr H => k (sel 1 fr) H) [x0, Aes.undef] H : R))
/- internal/stringslite.IndexByte -/
noncomputable def r131_1 (C : CallF) (k : KT R) : KT R := fun fr H => opn 3 fr (fun s0 s1 s4 => 
(qRes (C 147 [s0, s1] H) fun v7 H =>
k [s0, s1, v7] H : R))
noncomputable def r131_0 (k : KT R) : KT R := fun fr H => opn 3 fr (fun s0 s1 s4 => 
(k [s0, s1, (.int .i64 0)] H : R))
noncomputable def c131 (C : CallF) (l0 : List AV) (H : AH) (k : AV → AH → R) : R := opn 2 l0 (fun x0 x1 => (qFn (fun kr => (r131_0 (r131_1 C kr)))
(fun fr H => k (sel 2 fr) H) [x0, x1, Aes.undef] H : R))
/- internal/bytealg.Cutover -/
noncomputable def r133_1 (k : KT R) : KT R := fun fr H => opn 2 fr (fun s0 s2 => 
(qAdd X 3 s0 (.int .i64 16) fun v4 =>
qQuo X 3 v4 (.int .i64 8) fun v5 =>
k [s0, v5] H : R))
noncomputable def r133_0 (k : KT R) : KT R := fun fr H => opn 2 fr (fun s0 s2 => 
(k [s0, (.int .i64 0)] H : R))
noncomputable def c133 (C : CallF) (l0 : List AV) (H : AH) (k : AV → AH → R) : R := opn 1 l0 (fun x0 => (qFn (fun kr => (r133_0 (r133_1 kr)))
(fun fr H => k (sel 1 fr) H) [x0, Aes.undef] H : R))
/- refectory/refectoryref01.Block -/
noncomputable def r135_24 (k : KT R) : KT R := fun fr H => opn 16 fr (fun s0 s2 s3 s4 s5 s6 s7 s8 s9 s15 s38 s47 s78 s100 s109 s113 => 
(k [s0, s8, s3, s4, s5, s6, s7, s8, s9, s15, s38, s47, s78, s100, s109, s113] H : R))
noncomputable def r135_20 (k : KT R) : KT R := fun fr H => opn 16 fr (fun s0 s2 s3 s4 s5 s6 s7 s8 s9 s15 s38 s47 s78 s100 s109 s113 => 
(qAdd X 3 s9 (.int .i64 1) fun v111 =>
k [s0, s2, s3, s4, s5, s6, s7, s8, v111, s15, s38, s47, s78, s100, s109, s113] H : R))
noncomputable def r135_23 (k : KT R) : KT R := fun fr H => opn 16 fr (fun s0 s2 s3 s4 s5 s6 s7 s8 s9 s15 s38 s47 s78 s100 s109 s113 => 
(qIa 1 s3 s9 fun v119 =>
qLd v119 H fun v120 =>
qAdd X 9 s8 v120 fun v121 =>
k [s0, s2, s3, s4, s5, s6, s7, v121, s9, s15, s38, s47, s78, s100, s109, s113] H : R))
noncomputable def r135_22 (k : KT R) : KT R := fun fr H => opn 16 fr (fun s0 s2 s3 s4 s5 s6 s7 s8 s9 s15 s38 s47 s78 s100 s109 s113 => 
(qAdd X 9 s8 (.str [10]) fun v115 =>
k [s0, s2, s3, s4, s5, s6, s7, v115, s9, s15, s38, s47, s78, s100, s109, s113] H : R))
noncomputable def r135_21 (k : KT R) : KT R := fun fr H => opn 16 fr (fun s0 s2 s3 s4 s5 s6 s7 s8 s9 s15 s38 s47 s78 s100 s109 s113 => 
(qGtr X 3 s9 (.int .i64 0) fun v113 =>
k [s0, s2, s3, s4, s5, s6, s7, s8, s9, s15, s38, s47, s78, s100, s109, v113] H : R))
noncomputable def r135_19 (k : KT R) : KT R := fun fr H => opn 16 fr (fun s0 s2 s3 s4 s5 s6 s7 s8 s9 s15 s38 s47 s78 s100 s109 s113 => 
(qLenL s3 fun v108 =>
qLss X 3 s9 v108 fun v109 =>
k [s0, s2, s3, s4, s5, s6, s7, s8, s9, s15, s38, s47, s78, s100, v109, s113] H : R))
noncomputable def l135_5 (k1 : KT R) : KT R → KT R := fun k2 => (r135_19 (qCd (sel 14) (fun k5 => k5) (fun _ => k1) (qBl (fun k3 => (r135_21 (qCd (sel 15) (fun k4 => (r135_22 k4)) (fun k4 => k4) (r135_23 k3)))) (r135_20 k2))))
noncomputable def r135_18 (k : KT R) : KT R := fun fr H => opn 16 fr (fun s0 s2 s3 s4 s5 s6 s7 s8 s9 s15 s38 s47 s78 s100 s109 s113 => 
(k [s0, s2, s3, s4, s5, s6, s7, s8, (.int .i64 0), s15, s38, s47, s78, s100, s109, s113] H : R))
noncomputable def r135_17 (k : KT R) : KT R := fun fr H => opn 16 fr (fun s0 s2 s3 s4 s5 s6 s7 s8 s9 s15 s38 s47 s78 s100 s109 s113 => 
(k [s0, s2, s3, s4, s5, s6, s7, (.str []), s9, s15, s38, s47, s78, s100, s109, s113] H : R))
noncomputable def r135_16 (k : KT R) : KT R := fun fr H => opn 16 fr (fun s0 s2 s3 s4 s5 s6 s7 s8 s9 s15 s38 s47 s78 s100 s109 s113 => 
(qLenL s3 fun v103 =>
qSub X 3 v103 (.int .i64 1) fun v104 =>
qSlc Tryz.t40.desc 1 s3 none (some v104) none fun v105 =>
k [s0, s2, v105, s4, s5, s6, s7, s8, s9, s15, s38, s47, s78, s100, s109, s113] H : R))
noncomputable def r135_15 (C : CallF) (k : KT R) : KT R := fun fr H => opn 16 fr (fun s0 s2 s3 s4 s5 s6 s7 s8 s9 s15 s38 s47 s78 s100 s109 s113 => 
(qLenL s3 fun v82 =>
qGtr X 3 v82 (.int .i64 0) fun v83 =>
qG v83 true (fun k => k s3 H) H fun v85 H =>
qG v83 true (fun k => k s3 H) H fun v86 H =>
qG v83 true (fun k => qLenL v86 fun v => k v H) H fun v87 H =>
qG v83 true (fun k => qSub X 3 v87 (.int .i64 1) fun v => k v H) H fun v88 H =>
qG v83 true (fun k => qIa 1 v85 v88 fun v => k v H) H fun v89 H =>
qG v83 true (fun k => qLd v89 H fun v => k v H) H fun v90 H =>
qG v83 true (fun k => k s3 H) H fun v92 H =>
qG v83 true (fun k => k s3 H) H fun v93 H =>
qG v83 true (fun k => qLenL v93 fun v => k v H) H fun v94 H =>
qG v83 true (fun k => qSub X 3 v94 (.int .i64 1) fun v => k v H) H fun v95 H =>
qG v83 true (fun k => qIa 1 v92 v95 fun v => k v H) H fun v96 H =>
qG v83 true (fun k => qLd v96 H fun v => k v H) H fun v97 H =>
qG v83 true (fun k => qLenS v97 fun v => k v H) H fun v98 H =>
qG v83 true (fun k => qRes (C 150 [v90] H) fun v H => qLd v96 H fun w => qSame v97 w (k v H)) H fun v91 H =>
qG v83 true (fun k => qEql X 3 v91 v98 fun v => k v H) H fun v99 H =>
qPick v83 v99 (.bool false) fun v100 =>
k [s0, s2, s3, s4, s5, s6, s7, s8, s9, s15, s38, s47, s78, v100, s109, s113] H : R))
noncomputable def l135_9 (C : CallF) (k6 : KT R) : KT R → KT R := fun k7 => (r135_15 C (qCd (sel 13) (fun k9 => k9) (fun _ => k6) (qBl (fun k8 => (r135_16 k8)) k7)))
noncomputable def r135_14 (k : KT R) : KT R := fun fr H => opn 16 fr (fun s0 s2 s3 s4 s5 s6 s7 s8 s9 s15 s38 s47 s78 s100 s109 s113 => 
(qSlc Tryz.t40.desc 1 s3 (some (.int .i64 1)) none none fun v80 =>
k [s0, s2, v80, s4, s5, s6, s7, s8, s9, s15, s38, s47, s78, s100, s109, s113] H : R))
noncomputable def r135_13 (C : CallF) (k : KT R) : KT R := fun fr H => opn 16 fr (fun s0 s2 s3 s4 s5 s6 s7 s8 s9 s15 s38 s47 s78 s100 s109 s113 => 
(qLenL s3 fun v66 =>
qGtr X 3 v66 (.int .i64 0) fun v67 =>
qG v67 true (fun k => k s3 H) H fun v69 H =>
qG v67 true (fun k => qIa 1 v69 (.int .i64 0) fun v => k v H) H fun v70 H =>
qG v67 true (fun k => qLd v70 H fun v => k v H) H fun v71 H =>
qG v67 true (fun k => k s3 H) H fun v73 H =>
qG v67 true (fun k => qIa 1 v73 (.int .i64 0) fun v => k v H) H fun v74 H =>
qG v67 true (fun k => qLd v74 H fun v => k v H) H fun v75 H =>
qG v67 true (fun k => qLenS v75 fun v => k v H) H fun v76 H =>
qG v67 true (fun k => qRes (C 150 [v71] H) fun v H => qLd v74 H fun w => qSame v75 w (k v H)) H fun v72 H =>
qG v67 true (fun k => qEql X 3 v72 v76 fun v => k v H) H fun v77 H =>
qPick v67 v77 (.bool false) fun v78 =>
k [s0, s2, s3, s4, s5, s6, s7, s8, s9, s15, s38, s47, v78, s100, s109, s113] H : R))
noncomputable def l135_13 (C : CallF) (k10 : KT R) : KT R → KT R := fun k11 => (r135_13 C (qCd (sel 12) (fun k13 => k13) (fun _ => k10) (qBl (fun k12 => (r135_14 k12)) k11)))
noncomputable def r135_11 (k : KT R) : KT R := fun fr H => opn 16 fr (fun s0 s2 s3 s4 s5 s6 s7 s8 s9 s15 s38 s47 s78 s100 s109 s113 => 
(qAdd X 3 s7 (.int .i64 1) fun v49 =>
k [s0, s2, s3, s4, s5, s6, v49, s8, s9, s15, s38, s47, s78, s100, s109, s113] H : R))
noncomputable def r135_12 (C : CallF) (k : KT R) : KT R := fun fr H => opn 16 fr (fun s0 s2 s3 s4 s5 s6 s7 s8 s9 s15 s38 s47 s78 s100 s109 s113 => 
(qIa 1 s3 s7 fun v54 =>
qLd v54 H fun v55 =>
qIa 1 s3 s7 fun v59 =>
qLd v59 H fun v60 =>
qRes (C 150 [v60] H) fun v61 H =>
qLd v54 H fun w => qSame v55 w (qO (foldO min2 s4 [v61]) fun v62 =>
qSlc Tryz.t9.desc 0 v55 (some v62) none none fun v63 =>
qIa 1 s3 s7 fun v64 =>
qSt 1 v64 v63 H fun _ H =>
k [s0, s2, s3, s4, s5, s6, s7, s8, s9, s15, s38, s47, s78, s100, s109, s113] H) : R))
noncomputable def r135_10 (k : KT R) : KT R := fun fr H => opn 16 fr (fun s0 s2 s3 s4 s5 s6 s7 s8 s9 s15 s38 s47 s78 s100 s109 s113 => 
(qLenL s3 fun v42 =>
qLss X 3 s7 v42 fun v43 =>
qG v43 true (fun k => k s4 H) H fun v45 H =>
qG v43 true (fun k => qGtr X 3 v45 (.int .i64 0) fun v => k v H) H fun v46 H =>
qPick v43 v46 (.bool false) fun v47 =>
k [s0, s2, s3, s4, s5, s6, s7, s8, s9, s15, s38, v47, s78, s100, s109, s113] H : R))
noncomputable def l135_17 (C : CallF) (k14 : KT R) : KT R → KT R := fun k15 => (r135_10 (qCd (sel 11) (fun k17 => k17) (fun _ => k14) (qBl (fun k16 => (r135_12 C k16)) (r135_11 k15))))
noncomputable def r135_9 (k : KT R) : KT R := fun fr H => opn 16 fr (fun s0 s2 s3 s4 s5 s6 s7 s8 s9 s15 s38 s47 s78 s100 s109 s113 => 
(k [s0, s2, s3, s4, s5, s6, (.int .i64 1), s8, s9, s15, s38, s47, s78, s100, s109, s113] H : R))
noncomputable def r135_5 (k : KT R) : KT R := fun fr H => opn 16 fr (fun s0 s2 s3 s4 s5 s6 s7 s8 s9 s15 s38 s47 s78 s100 s109 s113 => 
(qAdd X 3 s5 (.int .i64 1) fun v17 =>
k [s0, s2, s3, s4, v17, s6, s7, s8, s9, s15, s38, s47, s78, s100, s109, s113] H : R))
noncomputable def r135_8 (k : KT R) : KT R := fun fr H => opn 16 fr (fun s0 s2 s3 s4 s5 s6 s7 s8 s9 s15 s38 s47 s78 s100 s109 s113 => 
(k [s0, s2, s3, s6, s5, s6, s7, s8, s9, s15, s38, s47, s78, s100, s109, s113] H : R))
noncomputable def r135_7 (k : KT R) : KT R := fun fr H => opn 16 fr (fun s0 s2 s3 s4 s5 s6 s7 s8 s9 s15 s38 s47 s78 s100 s109 s113 => 
(qIa 1 s3 s5 fun v26 =>
qLd v26 H fun v27 =>
qLenS v27 fun v28 =>
qLss X 3 s6 v28 fun v29 =>
qG v29 true (fun k => k s4 H) H fun v31 H =>
qG v29 true (fun k => qLss X 3 v31 (.int .i64 0) fun v => k v H) H fun v32 H =>
qG v29 true (fun k => k v32 H) H fun v33 H =>
qG v33 false (fun k => k s6 H) H fun v34 H =>
qG v33 false (fun k => k s4 H) H fun v35 H =>
qG v33 false (fun k => qLss X 3 v34 v35 fun v => k v H) H fun v36 H =>
qG v29 true (fun k => qPick v33 (.bool true) v36 fun v => k v H) H fun v37 H =>
qPick v29 v37 (.bool false) fun v38 =>
k [s0, s2, s3, s4, s5, s6, s7, s8, s9, s15, v38, s47, s78, s100, s109, s113] H : R))
noncomputable def r135_6 (C : CallF) (k : KT R) : KT R := fun fr H => opn 16 fr (fun s0 s2 s3 s4 s5 s6 s7 s8 s9 s15 s38 s47 s78 s100 s109 s113 => 
(qIa 1 s3 s5 fun v20 =>
qLd v20 H fun v21 =>
qRes (C 150 [v21] H) fun v22 H =>
k [s0, s2, s3, s4, s5, v22, s7, s8, s9, s15, s38, s47, s78, s100, s109, s113] H : R))
noncomputable def r135_4 (k : KT R) : KT R := fun fr H => opn 16 fr (fun s0 s2 s3 s4 s5 s6 s7 s8 s9 s15 s38 s47 s78 s100 s109 s113 => 
(qLenL s3 fun v14 =>
qLss X 3 s5 v14 fun v15 =>
k [s0, s2, s3, s4, s5, s6, s7, s8, s9, v15, s38, s47, s78, s100, s109, s113] H : R))
noncomputable def l135_22 (C : CallF) (k18 : KT R) : KT R → KT R := fun k19 => (r135_4 (qCd (sel 9) (fun k22 => k22) (fun _ => k18) (qBl (fun k20 => (r135_6 C (r135_7 (qCd (sel 10) (fun k21 => (r135_8 k21)) (fun k21 => k21) k20)))) (r135_5 k19))))
noncomputable def r135_3 (k : KT R) : KT R := fun fr H => opn 16 fr (fun s0 s2 s3 s4 s5 s6 s7 s8 s9 s15 s38 s47 s78 s100 s109 s113 => 
(k [s0, s2, s3, s4, (.int .i64 1), s6, s7, s8, s9, s15, s38, s47, s78, s100, s109, s113] H : R))
noncomputable def r135_2 (k : KT R) : KT R := fun fr H => opn 16 fr (fun s0 s2 s3 s4 s5 s6 s7 s8 s9 s15 s38 s47 s78 s100 s109 s113 => 
(k [s0, s2, s3, (.int .i64 (-1)), s5, s6, s7, s8, s9, s15, s38, s47, s78, s100, s109, s113] H : R))
noncomputable def r135_1 (C : CallF) (k : KT R) : KT R := fun fr H => opn 16 fr (fun s0 s2 s3 s4 s5 s6 s7 s8 s9 s15 s38 s47 s78 s100 s109 s113 => 
(qRes (C 149 [s0] H) fun v11 H =>
k [s0, s2, v11, s4, s5, s6, s7, s8, s9, s15, s38, s47, s78, s100, s109, s113] H : R))
noncomputable def r135_0 (k : KT R) : KT R := fun fr H => opn 16 fr (fun s0 s2 s3 s4 s5 s6 s7 s8 s9 s15 s38 s47 s78 s100 s109 s113 => 
(k [s0, (.str []), s3, s4, s5, s6, s7, s8, s9, s15, s38, s47, s78, s100, s109, s113] H : R))
noncomputable def c135 (C : CallF) (l0 : List AV) (H : AH) (k : AV → AH → R) : R := opn 1 l0 (fun x0 => (qFn (fun kr => (r135_0 (r135_1 C (r135_2 (r135_3 (qBl (fun k18 => (qLoop (l135_22 C k18))) (r135_9 (qBl (fun k14 => (qLoop (l135_17 C k14))) (qBl (fun k10 => (qLoop (l135_13 C k10))) (qBl (fun k6 => (qLoop (l135_9 C k6))) (r135_17 (r135_18 (qBl (fun k1 => (qLoop (l135_5 k1))) (r135_24 kr))))))))))))))
(fun fr H => k (sel 1 fr) H) [x0, Aes.undef, Aes.undef, Aes.undef, Aes.undef, Aes.undef, Aes.undef, Aes.undef, Aes.undef, Aes.undef, Aes.undef, Aes.undef, Aes.undef, Aes.undef, Aes.undef, Aes.undef] H : R))
/- refectory/refectoryref01.Valid -/
noncomputable def r136_7 (k : KT R) : KT R := fun fr H => opn 6 fr (fun s0 s2 s3 s5 s9 s17 => 
(k [s0, (.bool true), s3, s5, s9, s17] H : R))
noncomputable def r136_6 (k : KT R) : KT R := fun fr H => opn 6 fr (fun s0 s2 s3 s5 s9 s17 => 
(qAdd X 3 s3 s5 fun v20 =>
k [s0, s2, v20, s5, s9, s17] H : R))
noncomputable def r136_5 (k : KT R) : KT R := fun fr H => opn 6 fr (fun s0 s2 s3 s5 s9 s17 => 
(k [s0, (.bool false), s3, s5, s9, s17] H : R))
noncomputable def r136_4 (k : KT R) : KT R := fun fr H => opn 6 fr (fun s0 s2 s3 s5 s9 s17 => 
(qEql X 3 s5 (.int .i64 0) fun v17 =>
k [s0, s2, s3, s5, s9, v17] H : R))
noncomputable def r136_3 (C : CallF) (k : KT R) : KT R := fun fr H => opn 6 fr (fun s0 s2 s3 s5 s9 s17 => 
(qRes (C 151 [s0, s3] H) fun v13 H =>
qExt v13 0 fun v14 =>
qExt v13 1 fun v15 =>
k [s0, s2, s3, v15, s9, s17] H : R))
noncomputable def r136_2 (k : KT R) : KT R := fun fr H => opn 6 fr (fun s0 s2 s3 s5 s9 s17 => 
(qLenS s0 fun v8 =>
qLss X 3 s3 v8 fun v9 =>
k [s0, s2, s3, s5, v9, s17] H : R))
noncomputable def l136_5 (C : CallF) (k1 : KT R) (kr : KT R) : KT R → KT R := fun k2 => (r136_2 (qCd (sel 4) (fun k5 => k5) (fun _ => k1) (qBl (fun k3 => (r136_3 C (r136_4 (qCd (sel 5) (fun _ => (r136_5 kr)) (fun k4 => k4) (r136_6 k3))))) k2)))
noncomputable def r136_1 (k : KT R) : KT R := fun fr H => opn 6 fr (fun s0 s2 s3 s5 s9 s17 => 
(k [s0, s2, (.int .i64 0), s5, s9, s17] H : R))
noncomputable def r136_0 (k : KT R) : KT R := fun fr H => opn 6 fr (fun s0 s2 s3 s5 s9 s17 => 
(k [s0, (.bool false), s3, s5, s9, s17] H : R))
noncomputable def c136 (C : CallF) (l0 : List AV) (H : AH) (k : AV → AH → R) : R := opn 1 l0 (fun x0 => (qFn (fun kr => (r136_0 (r136_1 (qBl (fun k1 => (qLoop (l136_5 C k1 kr))) (r136_7 kr)))))
(fun fr H => k (sel 1 fr) H) [x0, Aes.undef, Aes.undef, Aes.undef, Aes.undef, Aes.undef] H : R))
/- refectory/refectoryref01.one -/
noncomputable def r137_27 (k : KT R) : KT R := fun fr H => opn 18 fr (fun s0 s1 s4 s5 s6 s7 s11 s14 s15 s24 s26 s28 s30 s32 s34 s66 s76 s94 => 
(k [s0, s1, (.str []), (.int .i64 0), s6, s7, s11, s14, s15, s24, s26, s28, s30, s32, s34, s66, s76, s94] H : R))
noncomputable def r137_7 (k : KT R) : KT R := fun fr H => opn 18 fr (fun s0 s1 s4 s5 s6 s7 s11 s14 s15 s24 s26 s28 s30 s32 s34 s66 s76 s94 => 
(qAdd X 3 s1 (.int .i64 1) fun v22 =>
qSlc Tryz.t9.desc 0 s0 (some s1) (some v22) none fun v23 =>
k [s0, s1, v23, (.int .i64 1), s6, s7, s11, s14, s15, s24, s26, s28, s30, s32, s34, s66, s76, s94] H : R))
noncomputable def r137_9 (k : KT R) : KT R := fun fr H => opn 18 fr (fun s0 s1 s4 s5 s6 s7 s11 s14 s15 s24 s26 s28 s30 s32 s34 s66 s76 s94 => 
(k [s0, s1, (.str [8]), (.int .i64 1), s6, s7, s11, s14, s15, s24, s26, s28, s30, s32, s34, s66, s76, s94] H : R))
noncomputable def r137_11 (k : KT R) : KT R := fun fr H => opn 18 fr (fun s0 s1 s4 s5 s6 s7 s11 s14 s15 s24 s26 s28 s30 s32 s34 s66 s76 s94 => 
(k [s0, s1, (.str [12]), (.int .i64 1), s6, s7, s11, s14, s15, s24, s26, s28, s30, s32, s34, s66, s76, s94] H : R))
noncomputable def r137_13 (k : KT R) : KT R := fun fr H => opn 18 fr (fun s0 s1 s4 s5 s6 s7 s11 s14 s15 s24 s26 s28 s30 s32 s34 s66 s76 s94 => 
(k [s0, s1, (.str [10]), (.int .i64 1), s6, s7, s11, s14, s15, s24, s26, s28, s30, s32, s34, s66, s76, s94] H : R))
noncomputable def r137_15 (k : KT R) : KT R := fun fr H => opn 18 fr (fun s0 s1 s4 s5 s6 s7 s11 s14 s15 s24 s26 s28 s30 s32 s34 s66 s76 s94 => 
(k [s0, s1, (.str [13]), (.int .i64 1), s6, s7, s11, s14, s15, s24, s26, s28, s30, s32, s34, s66, s76, s94] H : R))
noncomputable def r137_17 (k : KT R) : KT R := fun fr H => opn 18 fr (fun s0 s1 s4 s5 s6 s7 s11 s14 s15 s24 s26 s28 s30 s32 s34 s66 s76 s94 => 
(k [s0, s1, (.str [9]), (.int .i64 1), s6, s7, s11, s14, s15, s24, s26, s28, s30, s32, s34, s66, s76, s94] H : R))
noncomputable def r137_26 (C : CallF) (k : KT R) : KT R := fun fr H => opn 18 fr (fun s0 s1 s4 s5 s6 s7 s11 s14 s15 s24 s26 s28 s30 s32 s34 s66 s76 s94 => 
(qRes (C 153 [s6] H) fun v96 H =>
k [s0, s1, v96, (.int .i64 5), s6, s7, s11, s14, s15, s24, s26, s28, s30, s32, s34, s66, s76, s94] H : R))
noncomputable def r137_25 (k : KT R) : KT R := fun fr H => opn 18 fr (fun s0 s1 s4 s5 s6 s7 s11 s14 s15 s24 s26 s28 s30 s32 s34 s66 s76 s94 => 
(k [s0, s1, (.str []), (.int .i64 0), s6, s7, s11, s14, s15, s24, s26, s28, s30, s32, s34, s66, s76, s94] H : R))
noncomputable def r137_24 (k : KT R) : KT R := fun fr H => opn 18 fr (fun s0 s1 s4 s5 s6 s7 s11 s14 s15 s24 s26 s28 s30 s32 s34 s66 s76 s94 => 
(qLss X 3 s6 (.int .i64 0) fun v86 =>
qG v86 false (fun k => k s6 H) H fun v88 H =>
qG v86 false (fun k => qGeq X 3 v88 (.int .i64 55296) fun v => k v H) H fun v89 H =>
qG v86 false (fun k => k v89 H) H fun v90 H =>
qG v90 true (fun k => k s6 H) H fun v91 H =>
qG v90 true (fun k => qLeq X 3 v91 (.int .i64 57343) fun v => k v H) H fun v92 H =>
qG v86 false (fun k => qPick v90 v92 (.bool false) fun v => k v H) H fun v93 H =>
qPick v86 (.bool true) v93 fun v94 =>
k [s0, s1, s4, s5, s6, s7, s11, s14, s15, s24, s26, s28, s30, s32, s34, s66, s76, v94] H : R))
noncomputable def r137_23 (C : CallF) (k : KT R) : KT R := fun fr H => opn 18 fr (fun s0 s1 s4 s5 s6 s7 s11 s14 s15 s24 s26 s28 s30 s32 s34 s66 s76 s94 => 
(qSub X 3 s6 (.int .i64 55296) fun v78 =>
qO (binop X .shl 3 v78 (.int .u64 10)) fun v79 =>
qAdd X 3 (.int .i64 65536) v79 fun v80 =>
qAdd X 3 v80 s7 fun v82 =>
qSub X 3 v82 (.int .i64 56320) fun v83 =>
qRes (C 153 [v83] H) fun v84 H =>
k [s0, s1, v84, (.int .i64 11), s6, s7, s11, s14, s15, s24, s26, s28, s30, s32, s34, s66, s76, s94] H : R))
noncomputable def r137_22 (k : KT R) : KT R := fun fr H => opn 18 fr (fun s0 s1 s4 s5 s6 s7 s11 s14 s15 s24 s26 s28 s30 s32 s34 s66 s76 s94 => 
(qGeq X 3 s7 (.int .i64 56320) fun v72 =>
qG v72 true (fun k => k s7 H) H fun v74 H =>
qG v72 true (fun k => qLeq X 3 v74 (.int .i64 57343) fun v => k v H) H fun v75 H =>
qPick v72 v75 (.bool false) fun v76 =>
k [s0, s1, s4, s5, s6, s7, s11, s14, s15, s24, s26, s28, s30, s32, s34, s66, v76, s94] H : R))
noncomputable def r137_21 (C : CallF) (k : KT R) : KT R := fun fr H => opn 18 fr (fun s0 s1 s4 s5 s6 s7 s11 s14 s15 s24 s26 s28 s30 s32 s34 s66 s76 s94 => 
(qAdd X 3 s1 (.int .i64 7) fun v69 =>
qRes (C 152 [s0, v69] H) fun v70 H =>
k [s0, s1, s4, s5, s6, v70, s11, s14, s15, s24, s26, s28, s30, s32, s34, s66, s76, s94] H : R))
noncomputable def r137_20 (k : KT R) : KT R := fun fr H => opn 18 fr (fun s0 s1 s4 s5 s6 s7 s11 s14 s15 s24 s26 s28 s30 s32 s34 s66 s76 s94 => 
(qGeq X 3 s6 (.int .i64 55296) fun v41 =>
qG v41 true (fun k => k s6 H) H fun v43 H =>
qG v41 true (fun k => qLeq X 3 v43 (.int .i64 56319) fun v => k v H) H fun v44 H =>
qPick v41 v44 (.bool false) fun v45 =>
qG v45 true (fun k => k s1 H) H fun v47 H =>
qG v45 true (fun k => qAdd X 3 v47 (.int .i64 6) fun v => k v H) H fun v48 H =>
qG v45 true (fun k => k s0 H) H fun v49 H =>
qG v45 true (fun k => qLenS v49 fun v => k v H) H fun v50 H =>
qG v45 true (fun k => qLss X 3 v48 v50 fun v => k v H) H fun v51 H =>
qPick v45 v51 (.bool false) fun v52 =>
qG v52 true (fun k => k s0 H) H fun v54 H =>
qG v52 true (fun k => k s1 H) H fun v55 H =>
qG v52 true (fun k => qAdd X 3 v55 (.int .i64 5) fun v => k v H) H fun v56 H =>
qG v52 true (fun k => qIx v54 v56 fun v => k v H) H fun v57 H =>
qG v52 true (fun k => qEql X 5 v57 (.int .u8 92) fun v => k v H) H fun v58 H =>
qPick v52 v58 (.bool false) fun v59 =>
qG v59 true (fun k => k s0 H) H fun v61 H =>
qG v59 true (fun k => k s1 H) H fun v62 H =>
qG v59 true (fun k => qAdd X 3 v62 (.int .i64 6) fun v => k v H) H fun v63 H =>
qG v59 true (fun k => qIx v61 v63 fun v => k v H) H fun v64 H =>
qG v59 true (fun k => qEql X 5 v64 (.int .u8 117) fun v => k v H) H fun v65 H =>
qPick v59 v65 (.bool false) fun v66 =>
k [s0, s1, s4, s5, s6, s7, s11, s14, s15, s24, s26, s28, s30, s32, s34, v66, s76, s94] H : R))
noncomputable def r137_19 (C : CallF) (k : KT R) : KT R := fun fr H => opn 18 fr (fun s0 s1 s4 s5 s6 s7 s11 s14 s15 s24 s26 s28 s30 s32 s34 s66 s76 s94 => 
(qAdd X 3 s1 (.int .i64 1) fun v38 =>
qRes (C 152 [s0, v38] H) fun v39 H =>
k [s0, s1, s4, s5, v39, s7, s11, s14, s15, s24, s26, s28, s30, s32, s34, s66, s76, s94] H : R))
noncomputable def r137_18 (k : KT R) : KT R := fun fr H => opn 18 fr (fun s0 s1 s4 s5 s6 s7 s11 s14 s15 s24 s26 s28 s30 s32 s34 s66 s76 s94 => 
(qEql X 5 s14 (.int .u8 117) fun v35 =>
k [s0, s1, s4, s5, s6, s7, s11, s14, s15, s24, s26, s28, s30, s32, v35, s66, s76, s94] H : R))
noncomputable def r137_16 (k : KT R) : KT R := fun fr H => opn 18 fr (fun s0 s1 s4 s5 s6 s7 s11 s14 s15 s24 s26 s28 s30 s32 s34 s66 s76 s94 => 
(qEql X 5 s14 (.int .u8 116) fun v33 =>
k [s0, s1, s4, s5, s6, s7, s11, s14, s15, s24, s26, s28, s30, v33, s34, s66, s76, s94] H : R))
noncomputable def r137_14 (k : KT R) : KT R := fun fr H => opn 18 fr (fun s0 s1 s4 s5 s6 s7 s11 s14 s15 s24 s26 s28 s30 s32 s34 s66 s76 s94 => 
(qEql X 5 s14 (.int .u8 114) fun v31 =>
k [s0, s1, s4, s5, s6, s7, s11, s14, s15, s24, s26, s28, v31, s32, s34, s66, s76, s94] H : R))
noncomputable def r137_12 (k : KT R) : KT R := fun fr H => opn 18 fr (fun s0 s1 s4 s5 s6 s7 s11 s14 s15 s24 s26 s28 s30 s32 s34 s66 s76 s94 => 
(qEql X 5 s14 (.int .u8 110) fun v29 =>
k [s0, s1, s4, s5, s6, s7, s11, s14, s15, s24, s26, v29, s30, s32, s34, s66, s76, s94] H : R))
noncomputable def r137_10 (k : KT R) : KT R := fun fr H => opn 18 fr (fun s0 s1 s4 s5 s6 s7 s11 s14 s15 s24 s26 s28 s30 s32 s34 s66 s76 s94 => 
(qEql X 5 s14 (.int .u8 102) fun v27 =>
k [s0, s1, s4, s5, s6, s7, s11, s14, s15, s24, v27, s28, s30, s32, s34, s66, s76, s94] H : R))
noncomputable def r137_8 (k : KT R) : KT R := fun fr H => opn 18 fr (fun s0 s1 s4 s5 s6 s7 s11 s14 s15 s24 s26 s28 s30 s32 s34 s66 s76 s94 => 
(qEql X 5 s14 (.int .u8 98) fun v25 =>
k [s0, s1, s4, s5, s6, s7, s11, s14, s15, v25, s26, s28, s30, s32, s34, s66, s76, s94] H : R))
noncomputable def r137_6 (k : KT R) : KT R := fun fr H => opn 18 fr (fun s0 s1 s4 s5 s6 s7 s11 s14 s15 s24 s26 s28 s30 s32 s34 s66 s76 s94 => 
(qEql X 5 s14 (.int .u8 47) fun v18 =>
k [s0, s1, s4, s5, s6, s7, s11, s14, v18, s24, s26, s28, s30, s32, s34, s66, s76, s94] H : R))
noncomputable def r137_5 (k : KT R) : KT R := fun fr H => opn 18 fr (fun s0 s1 s4 s5 s6 s7 s11 s14 s15 s24 s26 s28 s30 s32 s34 s66 s76 s94 => 
(qEql X 5 s14 (.int .u8 92) fun v17 =>
k [s0, s1, s4, s5, s6, s7, s11, s14, v17, s24, s26, s28, s30, s32, s34, s66, s76, s94] H : R))
noncomputable def r137_4 (k : KT R) : KT R := fun fr H => opn 18 fr (fun s0 s1 s4 s5 s6 s7 s11 s14 s15 s24 s26 s28 s30 s32 s34 s66 s76 s94 => 
(qEql X 5 s14 (.int .u8 34) fun v16 =>
k [s0, s1, s4, s5, s6, s7, s11, s14, v16, s24, s26, s28, s30, s32, s34, s66, s76, s94] H : R))
noncomputable def r137_3 (k : KT R) : KT R := fun fr H => opn 18 fr (fun s0 s1 s4 s5 s6 s7 s11 s14 s15 s24 s26 s28 s30 s32 s34 s66 s76 s94 => 
(qIx s0 s1 fun v14 =>
k [s0, s1, s4, s5, s6, s7, s11, v14, s15, s24, s26, s28, s30, s32, s34, s66, s76, s94] H : R))
noncomputable def r137_2 (k : KT R) : KT R := fun fr H => opn 18 fr (fun s0 s1 s4 s5 s6 s7 s11 s14 s15 s24 s26 s28 s30 s32 s34 s66 s76 s94 => 
(k [s0, s1, (.str []), (.int .i64 0), s6, s7, s11, s14, s15, s24, s26, s28, s30, s32, s34, s66, s76, s94] H : R))
noncomputable def r137_1 (k : KT R) : KT R := fun fr H => opn 18 fr (fun s0 s1 s4 s5 s6 s7 s11 s14 s15 s24 s26 s28 s30 s32 s34 s66 s76 s94 => 
(qLenS s0 fun v10 =>
qGeq X 3 s1 v10 fun v11 =>
k [s0, s1, s4, s5, s6, s7, v11, s14, s15, s24, s26, s28, s30, s32, s34, s66, s76, s94] H : R))
noncomputable def r137_0 (k : KT R) : KT R := fun fr H => opn 18 fr (fun s0 s1 s4 s5 s6 s7 s11 s14 s15 s24 s26 s28 s30 s32 s34 s66 s76 s94 => 
(k [s0, s1, (.str []), (.int .i64 0), s6, s7, s11, s14, s15, s24, s26, s28, s30, s32, s34, s66, s76, s94] H : R))
noncomputable def c137 (C : CallF) (l0 : List AV) (H : AH) (k : AV → AH → R) : R := opn 2 l0 (fun x0 x1 => (qFn (fun kr => (r137_0 (r137_1 (qCd (sel 6) (fun _ => (r137_2 kr)) (fun k14 => k14) (r137_3 (qBl (fun k1 => (r137_4 (qCd (sel 8) (fun k12 => k12) (fun k12 => (r137_5 (qCd (sel 8) (fun k13 => k13) (fun k13 => (r137_6 k13)) k12))) (qCd (sel 8) (fun _ => (r137_7 kr)) (fun k2 => (r137_8 (qCd (sel 9) (fun _ => (r137_9 kr)) (fun k3 => (r137_10 (qCd (sel 10) (fun _ => (r137_11 kr)) (fun k4 => (r137_12 (qCd (sel 11) (fun _ => (r137_13 kr)) (fun k5 => (r137_14 (qCd (sel 12) (fun _ => (r137_15 kr)) (fun k6 => (r137_16 (qCd (sel 13) (fun _ => (r137_17 kr)) (fun k7 => (r137_18 (qCd (sel 14) (fun _ => (r137_19 C (r137_20 (qCd (sel 15) (fun k10 => (r137_21 C (r137_22 (qCd (sel 16) (fun _ => (r137_23 C kr)) (fun k11 => k11) k10)))) (fun k10 => k10) (r137_24 (qCd (sel 17) (fun _ => (r137_25 kr)) (fun k9 => k9) (r137_26 C kr))))))) (fun k8 => k8) k7))) k6))) k5))) k4))) k3))) k2))) k1)))) (r137_27 kr)))))))
(fun fr H => k (.tup [(sel 2 fr), (sel 3 fr)]) H) [x0, x1, Aes.undef, Aes.undef, Aes.undef, Aes.undef, Aes.undef, Aes.undef, Aes.undef, Aes.undef, Aes.undef, Aes.undef, Aes.undef, Aes.undef, Aes.undef, Aes.undef, Aes.undef, Aes.undef] H : R))
/- (*refectory/refectoryref05.P).typ -/
noncomputable def r138_11 (k : KT R) : KT R := fun fr H => opn 9 fr (fun s0 s1 s4 s5 s6 s7 s10 s17 s44 => 
(qLdA 2 s6 H fun v49 =>
qSt 2 s4 v49 H fun _ H =>
k [s0, s1, s4, s7, s6, s7, s10, s17, s44] H : R))
noncomputable def r138_10 (k : KT R) : KT R := fun fr H => opn 9 fr (fun s0 s1 s4 s5 s6 s7 s10 s17 s44 => 
(qFa 1 s6 fun v45 =>
qLd v45 H fun v46 =>
qAdd X 9 v46 (.str [33]) fun v47 =>
qFa 1 s6 fun v48 =>
qSt 1 v48 v47 H fun _ H =>
k [s0, s1, s4, s5, s6, s7, s10, s17, s44] H : R))
noncomputable def r138_9 (C : CallF) (k : KT R) : KT R := fun fr H => opn 9 fr (fun s0 s1 s4 s5 s6 s7 s10 s17 s44 => 
(qG s7 true (fun k => k s0 H) H fun v42 H =>
qG s7 true (fun k => qRes (C 29 [v42, (.int .i64 5), (.str [33])] H) k) H fun v43 H =>
qPick s7 v43 (.bool false) fun v44 =>
k [s0, s1, s4, s5, s6, s7, s10, s17, v44] H : R))
noncomputable def r138_4 (C : CallF) (k : KT R) : KT R := fun fr H => opn 9 fr (fun s0 s1 s4 s5 s6 s7 s10 s17 s44 => 
(qRes (C 70 [s0] H) fun v15 H =>
qFa 0 s6 fun v16 =>
qSt 1 v16 v15 H fun _ H =>
k [s0, s1, s4, s5, s6, s7, s10, s17, s44] H : R))
noncomputable def r138_8 (C : CallF) (k : KT R) : KT R := fun fr H => opn 9 fr (fun s0 s1 s4 s5 s6 s7 s10 s17 s44 => 
(qG s7 true (fun k => k s0 H) H fun v37 H =>
qG s7 true (fun k => qRes (C 29 [v37, (.int .i64 5), (.str [93])] H) k) H fun v38 H =>
qPick s7 v38 (.bool false) fun v39 =>
k [s0, s1, s4, s5, s6, v39, s10, s17, s44] H : R))
noncomputable def r138_7 (k : KT R) : KT R := fun fr H => opn 9 fr (fun s0 s1 s4 s5 s6 s7 s10 s17 s44 => 
(qFa 1 s6 fun v31 =>
qLd v31 H fun v32 =>
qAdd X 9 v32 (.str [93]) fun v33 =>
qFa 1 s6 fun v34 =>
qSt 1 v34 v33 H fun _ H =>
k [s0, s1, s4, s5, s6, s7, s10, s17, s44] H : R))
noncomputable def r138_6 (C : CallF) (k : KT R) : KT R := fun fr H => opn 9 fr (fun s0 s1 s4 s5 s6 s7 s10 s17 s44 => 
(qAdd X 3 s1 (.int .i64 1) fun v27 =>
qRes (C 138 [s0, v27] H) fun v28 H =>
qExt v28 0 fun v29 =>
qExt v28 1 fun v30 =>
qSt 2 s6 v29 H fun _ H =>
k [s0, s1, s4, s5, s6, v30, s10, s17, s44] H : R))
noncomputable def r138_2 (k : KT R) : KT R := fun fr H => opn 9 fr (fun s0 s1 s4 s5 s6 s7 s10 s17 s44 => 
(qBld z27 [] fun v9 =>
qSt 2 s4 v9 H fun _ H =>
k [s0, s1, s4, (.bool false), s6, s7, s10, s17, s44] H : R))
noncomputable def r138_5 (C : CallF) (k : KT R) : KT R := fun fr H => opn 9 fr (fun s0 s1 s4 s5 s6 s7 s10 s17 s44 => 
(qLss X 3 s1 (.int .i64 12) fun v19 =>
qG v19 true (fun k => k s0 H) H fun v21 H =>
qG v19 true (fun k => qRes (C 29 [v21, (.int .i64 5), (.str [91])] H) k) H fun v22 H =>
qPick v19 v22 (.bool false) fun v23 =>
k [s0, s1, s4, s5, s6, s7, s10, v23, s44] H : R))
noncomputable def r138_3 (C : CallF) (k : KT R) : KT R := fun fr H => opn 9 fr (fun s0 s1 s4 s5 s6 s7 s10 s17 s44 => 
(qRes (C 66 [s0] H) fun v12 H =>
qEql X 3 v12 (.int .i64 1) fun v13 =>
k [s0, s1, s4, s5, s6, s7, v13, s17, s44] H : R))
noncomputable def r138_1 (k : KT R) : KT R := fun fr H => opn 9 fr (fun s0 s1 s4 s5 s6 s7 s10 s17 s44 => 
(qBld z27 [] fun v8 =>
qNew (.cells z27) .ptr H fun v6 H =>
qSt 2 v6 v8 H fun _ H =>
k [s0, s1, s4, s5, v6, (.bool true), s10, s17, s44] H : R))
noncomputable def r138_0 (k : KT R) : KT R := fun fr H => opn 9 fr (fun s0 s1 s4 s5 s6 s7 s10 s17 s44 => 
(qNew (.cells z27) .ptr H fun v4 H =>
k [s0, s1, v4, (.bool false), s6, s7, s10, s17, s44] H : R))
noncomputable def c138 (C : CallF) (l0 : List AV) (H : AH) (k : AV → AH → R) : R := opn 2 l0 (fun x0 x1 => (qFn (fun kr => (r138_0 (r138_1 (qBl (fun k2 => (r138_3 C (qCd (sel 6) (fun k3 => (r138_4 C k3)) (fun k3 => (r138_5 C (qCd (sel 7) (fun k4 => (r138_6 C (r138_7 (r138_8 C k4)))) (fun _ => (r138_2 kr)) k3))) k2))) (r138_9 C (qCd (sel 8) (fun k1 => (r138_10 k1)) (fun k1 => k1) (r138_11 kr)))))))
(fun fr H => qPtr (sel 2 fr) (qLdA 2 (sel 2 fr) H fun w0 => k (.tup [w0, (sel 3 fr)]) H)) [x0, x1, Aes.undef, Aes.undef, Aes.undef, Aes.undef, Aes.undef, Aes.undef, Aes.undef] H : R))
/- refectory/refectoryref05.word -/
noncomputable def r139_7 (k : KT R) : KT R := fun fr H => opn 5 fr (fun s0 s2 s3 s4 s9 => 
(qBld z127 [(0, 1, (.int .i64 6)), (1, 1, s0)] fun v13 =>
qSt 4 s2 v13 H fun _ H =>
k [s0, s2, s3, s4, s9] H : R))
noncomputable def r139_4 (k : KT R) : KT R := fun fr H => opn 5 fr (fun s0 s2 s3 s4 s9 => 
(qBld z127 [(0, 1, (.int .i64 2)), (1, 1, s0)] fun v8 =>
qSt 4 s2 v8 H fun _ H =>
k [s0, s2, s3, s4, s9] H : R))
noncomputable def r139_6 (k : KT R) : KT R := fun fr H => opn 5 fr (fun s0 s2 s3 s4 s9 => 
(qBld z127 [(0, 1, (.int .i64 1))] fun v11 =>
qSt 4 s2 v11 H fun _ H =>
k [s0, s2, s3, s4, s9] H : R))
noncomputable def r139_5 (k : KT R) : KT R := fun fr H => opn 5 fr (fun s0 s2 s3 s4 s9 => 
(qEql X 9 s3 (.str [110,117,108,108]) fun v10 =>
k [s0, s2, s3, s4, v10] H : R))
noncomputable def r139_3 (k : KT R) : KT R := fun fr H => opn 5 fr (fun s0 s2 s3 s4 s9 => 
(qEql X 9 s3 (.str [102,97,108,115,101]) fun v6 =>
k [s0, s2, s3, v6, s9] H : R))
noncomputable def r139_2 (k : KT R) : KT R := fun fr H => opn 5 fr (fun s0 s2 s3 s4 s9 => 
(qEql X 9 s3 (.str [116,114,117,101]) fun v5 =>
k [s0, s2, s3, v5, s9] H : R))
noncomputable def r139_1 (k : KT R) : KT R := fun fr H => opn 5 fr (fun s0 s2 s3 s4 s9 => 
(k [s0, s2, s0, s4, s9] H : R))
noncomputable def r139_0 (k : KT R) : KT R := fun fr H => opn 5 fr (fun s0 s2 s3 s4 s9 => 
(qNew (.cells z127) .ptr H fun v2 H =>
k [s0, v2, s3, s4, s9] H : R))
noncomputable def c139 (C : CallF) (l0 : List AV) (H : AH) (k : AV → AH → R) : R := opn 1 l0 (fun x0 => (qFn (fun kr => (r139_0 (r139_1 (qBl (fun k1 => (r139_2 (qCd (sel 3) (fun k4 => k4) (fun k4 => (r139_3 k4)) (qCd (sel 3) (fun _ => (r139_4 kr)) (fun k2 => (r139_5 (qCd (sel 4) (fun _ => (r139_6 kr)) (fun k3 => k3) k2))) k1)))) (r139_7 kr)))))
(fun fr H => qPtr (sel 1 fr) (qLdA 4 (sel 1 fr) H fun w0 => k w0 H)) [x0, Aes.undef, Aes.undef, Aes.undef, Aes.undef] H : R))
/- (*refectory/refectoryref05.P).many -/
noncomputable def r140_9 (k : KT R) : KT R := fun fr H => opn 10 fr (fun s0 s1 s2 s3 s4 s10 s11 s15 s29 s31 => 
(qLdA 4 s11 H fun v50 =>
qSt 4 s10 v50 H fun _ H =>
k [s0, s1, s2, s3, s4, s10, s11, s15, s29, s31] H : R))
noncomputable def r140_8 (C : CallF) (k : KT R) : KT R := fun fr H => opn 10 fr (fun s0 s1 s2 s3 s4 s10 s11 s15 s29 s31 => 
(qFa 3 s11 fun v41 =>
qLd v41 H fun v42 =>
qAdd X 3 s3 (.int .i64 1) fun v45 =>
qRes (C 126 [s0, v45] H) fun v46 H =>
qLd v41 H fun w => qSame v42 w (qRows z127 1 [(0, v46)] fun v47 =>
qApp 4 72 v42 v47 false none H fun v48 H =>
qFa 3 s11 fun v49 =>
qSt 1 v49 v48 H fun _ H =>
k [s0, s1, s2, s3, s4, s10, s11, s15, s29, s31] H) : R))
noncomputable def r140_7 (C : CallF) (k : KT R) : KT R := fun fr H => opn 10 fr (fun s0 s1 s2 s3 s4 s10 s11 s15 s29 s31 => 
(qRes (C 68 [s0, (.str [58])] H) fun v40 H =>
k [s0, s1, s2, s3, s4, s10, s11, s15, s29, s31] H : R))
noncomputable def r140_6 (C : CallF) (k : KT R) : KT R := fun fr H => opn 10 fr (fun s0 s1 s2 s3 s4 s10 s11 s15 s29 s31 => 
(qFa 2 s11 fun v32 =>
qLd v32 H fun v33 =>
qRes (C 70 [s0] H) fun v35 H =>
qLd v32 H fun w => qSame v33 w (qRows z9 1 [(0, v35)] fun v36 =>
qApp 1 16 v33 v36 false none H fun v37 H =>
qFa 2 s11 fun v38 =>
qSt 1 v38 v37 H fun _ H =>
k [s0, s1, s2, s3, s4, s10, s11, s15, s29, s31] H) : R))
noncomputable def r140_5 (k : KT R) : KT R := fun fr H => opn 10 fr (fun s0 s1 s2 s3 s4 s10 s11 s15 s29 s31 => 
(qEql X 3 s1 (.int .i64 8) fun v31 =>
k [s0, s1, s2, s3, s4, s10, s11, s15, s29, v31] H : R))
noncomputable def r140_4 (C : CallF) (k : KT R) : KT R := fun fr H => opn 10 fr (fun s0 s1 s2 s3 s4 s10 s11 s15 s29 s31 => 
(qNc s0 fun v20 =>
qFa 2 v20 fun v21 =>
qLd v21 H fun v22 =>
qEql X 34 v22 (.int .i64 0) fun v23 =>
qG v23 true (fun k => k s0 H) H fun v25 H =>
qG v23 true (fun k => k s2 H) H fun v26 H =>
qG v23 true (fun k => qRes (C 29 [v25, (.int .i64 5), v26] H) k) H fun v27 H =>
qG v23 true (fun k => qNot v27 fun v => k v H) H fun v28 H =>
qPick v23 v28 (.bool false) fun v29 =>
k [s0, s1, s2, s3, s4, s10, s11, s15, v29, s31] H : R))
noncomputable def l140_5 (C : CallF) (k1 : KT R) : KT R → KT R := fun k2 => (r140_4 C (qCd (sel 8) (fun k5 => k5) (fun _ => k1) (qBl (fun k3 => (r140_5 (qCd (sel 9) (fun k4 => (r140_6 C (r140_7 C k4))) (fun k4 => k4) (r140_8 C k3)))) k2)))
noncomputable def r140_3 (C : CallF) (k : KT R) : KT R := fun fr H => opn 10 fr (fun s0 s1 s2 s3 s4 s10 s11 s15 s29 s31 => 
(qRes (C 106 [s0, (.int .i64 4), s4] H) fun v18 H =>
k [s0, s1, s2, s3, s4, s10, s11, s15, s29, s31] H : R))
noncomputable def r140_2 (k : KT R) : KT R := fun fr H => opn 10 fr (fun s0 s1 s2 s3 s4 s10 s11 s15 s29 s31 => 
(qGtr X 3 s3 (.int .i64 12) fun v15 =>
k [s0, s1, s2, s3, s4, s10, s11, v15, s29, s31] H : R))
noncomputable def r140_1 (k : KT R) : KT R := fun fr H => opn 10 fr (fun s0 s1 s2 s3 s4 s10 s11 s15 s29 s31 => 
(qBld z127 [(0, 1, s1)] fun v13 =>
qNew (.cells z127) .ptr H fun v11 H =>
qSt 4 v11 v13 H fun _ H =>
k [s0, s1, s2, s3, s4, s10, v11, s15, s29, s31] H : R))
noncomputable def r140_0 (k : KT R) : KT R := fun fr H => opn 10 fr (fun s0 s1 s2 s3 s4 s10 s11 s15 s29 s31 => 
(qNew (.cells z127) .ptr H fun v10 H =>
k [s0, s1, s2, s3, s4, v10, s11, s15, s29, s31] H : R))
noncomputable def c140 (C : CallF) (l0 : List AV) (H : AH) (k : AV → AH → R) : R := opn 5 l0 (fun x0 x1 x2 x3 x4 => (qFn (fun kr => (r140_0 (r140_1 (r140_2 (qCd (sel 7) (fun k6 => (r140_3 C k6)) (fun k6 => k6) (qBl (fun k1 => (qLoop (l140_5 C k1))) (r140_9 kr)))))))
(fun fr H => qPtr (sel 5 fr) (qLdA 4 (sel 5 fr) H fun w0 => k w0 H)) [x0, x1, x2, x3, x4, Aes.undef, Aes.undef, Aes.undef, Aes.undef, Aes.undef] H : R))
/- strings.IndexByte -/
noncomputable def r145_1 (C : CallF) (k : KT R) : KT R := fun fr H => opn 3 fr (fun s0 s1 s4 => 
(qRes (C 131 [s0, s1] H) fun v7 H =>
k [s0, s1, v7] H : R))
noncomputable def r145_0 (k : KT R) : KT R := fun fr H => opn 3 fr (fun s0 s1 s4 => 
(k [s0, s1, (.int .i64 0)] H : R))
noncomputable def c145 (C : CallF) (l0 : List AV) (H : AH) (k : AV → AH → R) : R := opn 2 l0 (fun x0 x1 => (qFn (fun kr => (r145_0 (r145_1 C kr)))
(fun fr H => k (sel 2 fr) H) [x0, x1, Aes.undef] H : R))
/- unicode/utf8.ValidRune -/
noncomputable def r146_5 (k : KT R) : KT R := fun fr H => opn 4 fr (fun s0 s2 s3 s10 => 
(k [s0, (.bool false), s3, s10] H : R))
noncomputable def r146_2 (k : KT R) : KT R := fun fr H => opn 4 fr (fun s0 s2 s3 s10 => 
(k [s0, (.bool true), s3, s10] H : R))
noncomputable def r146_4 (k : KT R) : KT R := fun fr H => opn 4 fr (fun s0 s2 s3 s10 => 
(k [s0, (.bool true), s3, s10] H : R))
noncomputable def r146_3 (k : KT R) : KT R := fun fr H => opn 4 fr (fun s0 s2 s3 s10 => 
(qLss X 21 (.int .i32 57343) s0 fun v12 =>
qG v12 true (fun k => k s0 H) H fun v14 H =>
qG v12 true (fun k => qLeq X 21 v14 (.int .i32 1114111) fun v => k v H) H fun v15 H =>
qPick v12 v15 (.bool false) fun v16 =>
k [s0, s2, s3, v16] H : R))
noncomputable def r146_1 (k : KT R) : KT R := fun fr H => opn 4 fr (fun s0 s2 s3 s10 => 
(qLeq X 21 (.int .i32 0) s0 fun v5 =>
qG v5 true (fun k => k s0 H) H fun v7 H =>
qG v5 true (fun k => qLss X 21 v7 (.int .i32 55296) fun v => k v H) H fun v8 H =>
qPick v5 v8 (.bool false) fun v9 =>
k [s0, s2, v9, s10] H : R))
noncomputable def r146_0 (k : KT R) : KT R := fun fr H => opn 4 fr (fun s0 s2 s3 s10 => 
(k [s0, (.bool false), s3, s10] H : R))
noncomputable def c146 (C : CallF) (l0 : List AV) (H : AH) (k : AV → AH → R) : R := opn 1 l0 (fun x0 => (qFn (fun kr => (r146_0 (qBl (fun k1 => (r146_1 (qCd (sel 2) (fun _ => (r146_2 kr)) (fun k2 => (r146_3 (qCd (sel 3) (fun _ => (r146_4 kr)) (fun k3 => k3) k2))) k1))) (r146_5 kr))))
(fun fr H => k (sel 1 fr) H) [x0, Aes.undef, Aes.undef, Aes.undef] H : R))
/- refectory/refectoryref01.lines -/
noncomputable def r149_11 (k : KT R) : KT R := fun fr H => opn 8 fr (fun s0 s2 s3 s4 s5 s9 s21 s46 => 
(qSlc Tryz.t9.desc 0 s0 (some s4) none none fun v54 =>
qRows z9 1 [(0, v54)] fun v55 =>
qApp 1 16 s3 v55 false none H fun v56 H =>
k [s0, v56, s3, s4, s5, s9, s21, s46] H : R))
noncomputable def r149_5 (k : KT R) : KT R := fun fr H => opn 8 fr (fun s0 s2 s3 s4 s5 s9 s21 s46 => 
(qAdd X 3 s5 (.int .i64 1) fun v11 =>
k [s0, s2, s3, s4, v11, s9, s21, s46] H : R))
noncomputable def r149_10 (k : KT R) : KT R := fun fr H => opn 8 fr (fun s0 s2 s3 s4 s5 s9 s21 s46 => 
(qAdd X 3 s5 (.int .i64 1) fun v50 =>
k [s0, s2, s3, v50, s5, s9, s21, s46] H : R))
noncomputable def r149_9 (k : KT R) : KT R := fun fr H => opn 8 fr (fun s0 s2 s3 s4 s5 s9 s21 s46 => 
(qAdd X 3 s5 (.int .i64 1) fun v48 =>
k [s0, s2, s3, s4, v48, s9, s21, s46] H : R))
noncomputable def r149_8 (k : KT R) : KT R := fun fr H => opn 8 fr (fun s0 s2 s3 s4 s5 s9 s21 s46 => 
(qIx s0 s5 fun v31 =>
qEql X 5 v31 (.int .u8 13) fun v32 =>
qG v32 true (fun k => k s5 H) H fun v34 H =>
qG v32 true (fun k => qAdd X 3 v34 (.int .i64 1) fun v => k v H) H fun v35 H =>
qG v32 true (fun k => k s0 H) H fun v36 H =>
qG v32 true (fun k => qLenS v36 fun v => k v H) H fun v37 H =>
qG v32 true (fun k => qLss X 3 v35 v37 fun v => k v H) H fun v38 H =>
qPick v32 v38 (.bool false) fun v39 =>
qG v39 true (fun k => k s0 H) H fun v41 H =>
qG v39 true (fun k => k s5 H) H fun v42 H =>
qG v39 true (fun k => qAdd X 3 v42 (.int .i64 1) fun v => k v H) H fun v43 H =>
qG v39 true (fun k => qIx v41 v43 fun v => k v H) H fun v44 H =>
qG v39 true (fun k => qEql X 5 v44 (.int .u8 10) fun v => k v H) H fun v45 H =>
qPick v39 v45 (.bool false) fun v46 =>
k [s0, s2, s3, s4, s5, s9, s21, v46] H : R))
noncomputable def r149_7 (k : KT R) : KT R := fun fr H => opn 8 fr (fun s0 s2 s3 s4 s5 s9 s21 s46 => 
(qSlc Tryz.t9.desc 0 s0 (some s4) (some s5) none fun v26 =>
qRows z9 1 [(0, v26)] fun v27 =>
qApp 1 16 s3 v27 false none H fun v28 H =>
k [s0, s2, v28, s4, s5, s9, s21, s46] H : R))
noncomputable def r149_6 (k : KT R) : KT R := fun fr H => opn 8 fr (fun s0 s2 s3 s4 s5 s9 s21 s46 => 
(qIx s0 s5 fun v14 =>
qNeq X 5 v14 (.int .u8 10) fun v15 =>
qG v15 true (fun k => k s0 H) H fun v17 H =>
qG v15 true (fun k => k s5 H) H fun v18 H =>
qG v15 true (fun k => qIx v17 v18 fun v => k v H) H fun v19 H =>
qG v15 true (fun k => qNeq X 5 v19 (.int .u8 13) fun v => k v H) H fun v20 H =>
qPick v15 v20 (.bool false) fun v21 =>
k [s0, s2, s3, s4, s5, s9, v21, s46] H : R))
noncomputable def r149_4 (k : KT R) : KT R := fun fr H => opn 8 fr (fun s0 s2 s3 s4 s5 s9 s21 s46 => 
(qLenS s0 fun v8 =>
qLss X 3 s5 v8 fun v9 =>
k [s0, s2, s3, s4, s5, v9, s21, s46] H : R))
noncomputable def l149_6 (k1 : KT R) : KT R → KT R := fun k2 => (r149_4 (qCd (sel 5) (fun k6 => k6) (fun _ => k1) (qBl (fun k3 => (r149_6 (qCd (sel 6) (fun _ => k3) (fun k5 => k5) (r149_7 (r149_8 (qCd (sel 7) (fun k4 => (r149_9 k4)) (fun k4 => k4) (r149_10 k3))))))) (r149_5 k2))))
noncomputable def r149_3 (k : KT R) : KT R := fun fr H => opn 8 fr (fun s0 s2 s3 s4 s5 s9 s21 s46 => 
(k [s0, s2, s3, s4, (.int .i64 0), s9, s21, s46] H : R))
noncomputable def r149_2 (k : KT R) : KT R := fun fr H => opn 8 fr (fun s0 s2 s3 s4 s5 s9 s21 s46 => 
(k [s0, s2, s3, (.int .i64 0), s5, s9, s21, s46] H : R))
noncomputable def r149_1 (k : KT R) : KT R := fun fr H => opn 8 fr (fun s0 s2 s3 s4 s5 s9 s21 s46 => 
(k [s0, s2, (.sl [] .nil), s4, s5, s9, s21, s46] H : R))
noncomputable def r149_0 (k : KT R) : KT R := fun fr H => opn 8 fr (fun s0 s2 s3 s4 s5 s9 s21 s46 => 
(k [s0, (.sl [] .nil), s3, s4, s5, s9, s21, s46] H : R))
noncomputable def c149 (C : CallF) (l0 : List AV) (H : AH) (k : AV → AH → R) : R := opn 1 l0 (fun x0 => (qFn (fun kr => (r149_0 (r149_1 (r149_2 (r149_3 (qBl (fun k1 => (qLoop (l149_6 k1))) (r149_11 kr)))))))
(fun fr H => k (sel 1 fr) H) [x0, Aes.undef, Aes.undef, Aes.undef, Aes.undef, Aes.undef, Aes.undef, Aes.undef] H : R))
/- refectory/refectoryref01.blank -/
noncomputable def r150_4 (k : KT R) : KT R := fun fr H => opn 4 fr (fun s0 s2 s3 s19 => 
(k [s0, s3, s3, s19] H : R))
noncomputable def r150_3 (k : KT R) : KT R := fun fr H => opn 4 fr (fun s0 s2 s3 s19 => 
(qAdd X 3 s3 (.int .i64 1) fun v21 =>
k [s0, s2, v21, s19] H : R))
noncomputable def r150_2 (k : KT R) : KT R := fun fr H => opn 4 fr (fun s0 s2 s3 s19 => 
(qLenS s0 fun v6 =>
qLss X 3 s3 v6 fun v7 =>
qG v7 true (fun k => k s0 H) H fun v9 H =>
qG v7 true (fun k => k s3 H) H fun v10 H =>
qG v7 true (fun k => qIx v9 v10 fun v => k v H) H fun v11 H =>
qG v7 true (fun k => qEql X 5 v11 (.int .u8 32) fun v => k v H) H fun v12 H =>
qG v7 true (fun k => k v12 H) H fun v13 H =>
qG v13 false (fun k => k s0 H) H fun v14 H =>
qG v13 false (fun k => k s3 H) H fun v15 H =>
qG v13 false (fun k => qIx v14 v15 fun v => k v H) H fun v16 H =>
qG v13 false (fun k => qEql X 5 v16 (.int .u8 9) fun v => k v H) H fun v17 H =>
qG v7 true (fun k => qPick v13 (.bool true) v17 fun v => k v H) H fun v18 H =>
qPick v7 v18 (.bool false) fun v19 =>
k [s0, s2, s3, v19] H : R))
noncomputable def l150_4 (k1 : KT R) : KT R → KT R := fun k2 => (r150_2 (qCd (sel 3) (fun k4 => k4) (fun _ => k1) (qBl (fun k3 => (r150_3 k3)) k2)))
noncomputable def r150_1 (k : KT R) : KT R := fun fr H => opn 4 fr (fun s0 s2 s3 s19 => 
(k [s0, s2, (.int .i64 0), s19] H : R))
noncomputable def r150_0 (k : KT R) : KT R := fun fr H => opn 4 fr (fun s0 s2 s3 s19 => 
(k [s0, (.int .i64 0), s3, s19] H : R))
noncomputable def c150 (C : CallF) (l0 : List AV) (H : AH) (k : AV → AH → R) : R := opn 1 l0 (fun x0 => (qFn (fun kr => (r150_0 (r150_1 (qBl (fun k1 => (qLoop (l150_4 k1))) (r150_4 kr)))))
(fun fr H => k (sel 1 fr) H) [x0, Aes.undef, Aes.undef, Aes.undef] H : R))
/- refectory/refectoryref01.rune1 -/
noncomputable def r151_22 (k : KT R) : KT R := fun fr H => opn 16 fr (fun s0 s1 s4 s5 s6 s7 s8 s9 s14 s18 s27 s36 s50 s53 s62 s98 => 
(k [s0, s1, s8, s7, s6, s7, s8, s9, s14, s18, s27, s36, s50, s53, s62, s98] H : R))
noncomputable def r151_21 (k : KT R) : KT R := fun fr H => opn 16 fr (fun s0 s1 s4 s5 s6 s7 s8 s9 s14 s18 s27 s36 s50 s53 s62 s98 => 
(k [s0, s1, (.int .i64 0), (.int .i64 0), s6, s7, s8, s9, s14, s18, s27, s36, s50, s53, s62, s98] H : R))
noncomputable def r151_20 (k : KT R) : KT R := fun fr H => opn 16 fr (fun s0 s1 s4 s5 s6 s7 s8 s9 s14 s18 s27 s36 s50 s53 s62 s98 => 
(qEql X 3 s7 (.int .i64 3) fun v74 =>
qG v74 true (fun k => k s8 H) H fun v76 H =>
qG v74 true (fun k => qLss X 3 v76 (.int .i64 2048) fun v => k v H) H fun v77 H =>
qPick v74 v77 (.bool false) fun v78 =>
qG v78 false (fun k => k s7 H) H fun v80 H =>
qG v78 false (fun k => qEql X 3 v80 (.int .i64 4) fun v => k v H) H fun v81 H =>
qG v78 false (fun k => k v81 H) H fun v82 H =>
qG v82 true (fun k => k s8 H) H fun v83 H =>
qG v82 true (fun k => qLss X 3 v83 (.int .i64 65536) fun v => k v H) H fun v84 H =>
qG v82 true (fun k => k v84 H) H fun v85 H =>
qG v85 false (fun k => k s8 H) H fun v86 H =>
qG v85 false (fun k => qGtr X 3 v86 (.int .i64 1114111) fun v => k v H) H fun v87 H =>
qG v82 true (fun k => qPick v85 (.bool true) v87 fun v => k v H) H fun v88 H =>
qG v78 false (fun k => qPick v82 v88 (.bool false) fun v => k v H) H fun v89 H =>
qPick v78 (.bool true) v89 fun v90 =>
qG v90 false (fun k => k s8 H) H fun v92 H =>
qG v90 false (fun k => qGeq X 3 v92 (.int .i64 55296) fun v => k v H) H fun v93 H =>
qG v90 false (fun k => k v93 H) H fun v94 H =>
qG v94 true (fun k => k s8 H) H fun v95 H =>
qG v94 true (fun k => qLeq X 3 v95 (.int .i64 57343) fun v => k v H) H fun v96 H =>
qG v90 false (fun k => qPick v94 v96 (.bool false) fun v => k v H) H fun v97 H =>
qPick v90 (.bool true) v97 fun v98 =>
k [s0, s1, s4, s5, s6, s7, s8, s9, s14, s18, s27, s36, s50, s53, s62, v98] H : R))
noncomputable def r151_16 (k : KT R) : KT R := fun fr H => opn 16 fr (fun s0 s1 s4 s5 s6 s7 s8 s9 s14 s18 s27 s36 s50 s53 s62 s98 => 
(qAdd X 3 s9 (.int .i64 1) fun v55 =>
k [s0, s1, s4, s5, s6, s7, s8, v55, s14, s18, s27, s36, s50, s53, s62, s98] H : R))
noncomputable def r151_19 (k : KT R) : KT R := fun fr H => opn 16 fr (fun s0 s1 s4 s5 s6 s7 s8 s9 s14 s18 s27 s36 s50 s53 s62 s98 => 
(qO (binop X .shl 3 s8 (.int .u64 6)) fun v64 =>
qAdd X 3 s1 s9 fun v68 =>
qIx s0 v68 fun v69 =>
qO (binop X .and 5 v69 (.int .u8 63)) fun v70 =>
qConvI .i64 v70 fun v71 =>
qO (binop X .or 3 v64 v71) fun v72 =>
k [s0, s1, s4, s5, s6, s7, v72, s9, s14, s18, s27, s36, s50, s53, s62, s98] H : R))
noncomputable def r151_18 (k : KT R) : KT R := fun fr H => opn 16 fr (fun s0 s1 s4 s5 s6 s7 s8 s9 s14 s18 s27 s36 s50 s53 s62 s98 => 
(k [s0, s1, (.int .i64 0), (.int .i64 0), s6, s7, s8, s9, s14, s18, s27, s36, s50, s53, s62, s98] H : R))
noncomputable def r151_17 (k : KT R) : KT R := fun fr H => opn 16 fr (fun s0 s1 s4 s5 s6 s7 s8 s9 s14 s18 s27 s36 s50 s53 s62 s98 => 
(qAdd X 3 s1 s9 fun v59 =>
qIx s0 v59 fun v60 =>
qO (binop X .and 5 v60 (.int .u8 192)) fun v61 =>
qNeq X 5 v61 (.int .u8 128) fun v62 =>
k [s0, s1, s4, s5, s6, s7, s8, s9, s14, s18, s27, s36, s50, s53, v62, s98] H : R))
noncomputable def r151_15 (k : KT R) : KT R := fun fr H => opn 16 fr (fun s0 s1 s4 s5 s6 s7 s8 s9 s14 s18 s27 s36 s50 s53 s62 s98 => 
(qLss X 3 s9 s7 fun v53 =>
k [s0, s1, s4, s5, s6, s7, s8, s9, s14, s18, s27, s36, s50, v53, s62, s98] H : R))
noncomputable def l151_6 (k2 : KT R) (kr : KT R) : KT R → KT R := fun k3 => (r151_15 (qCd (sel 13) (fun k6 => k6) (fun _ => k2) (qBl (fun k4 => (r151_17 (qCd (sel 14) (fun _ => (r151_18 kr)) (fun k5 => k5) (r151_19 k4)))) (r151_16 k3))))
noncomputable def r151_14 (k : KT R) : KT R := fun fr H => opn 16 fr (fun s0 s1 s4 s5 s6 s7 s8 s9 s14 s18 s27 s36 s50 s53 s62 s98 => 
(k [s0, s1, s4, s5, s6, s7, s8, (.int .i64 1), s14, s18, s27, s36, s50, s53, s62, s98] H : R))
noncomputable def r151_13 (k : KT R) : KT R := fun fr H => opn 16 fr (fun s0 s1 s4 s5 s6 s7 s8 s9 s14 s18 s27 s36 s50 s53 s62 s98 => 
(k [s0, s1, (.int .i64 0), (.int .i64 0), s6, s7, s8, s9, s14, s18, s27, s36, s50, s53, s62, s98] H : R))
noncomputable def r151_12 (k : KT R) : KT R := fun fr H => opn 16 fr (fun s0 s1 s4 s5 s6 s7 s8 s9 s14 s18 s27 s36 s50 s53 s62 s98 => 
(qAdd X 3 s1 s7 fun v47 =>
qLenS s0 fun v49 =>
qGtr X 3 v47 v49 fun v50 =>
k [s0, s1, s4, s5, s6, s7, s8, s9, s14, s18, s27, s36, v50, s53, s62, s98] H : R))
noncomputable def r151_5 (k : KT R) : KT R := fun fr H => opn 16 fr (fun s0 s1 s4 s5 s6 s7 s8 s9 s14 s18 s27 s36 s50 s53 s62 s98 => 
(k [s0, s1, s6, (.int .i64 1), s6, s7, s8, s9, s14, s18, s27, s36, s50, s53, s62, s98] H : R))
noncomputable def r151_7 (k : KT R) : KT R := fun fr H => opn 16 fr (fun s0 s1 s4 s5 s6 s7 s8 s9 s14 s18 s27 s36 s50 s53 s62 s98 => 
(qO (binop X .and 3 s6 (.int .i64 31)) fun v26 =>
k [s0, s1, s4, s5, s6, (.int .i64 2), v26, s9, s14, s18, s27, s36, s50, s53, s62, s98] H : R))
noncomputable def r151_9 (k : KT R) : KT R := fun fr H => opn 16 fr (fun s0 s1 s4 s5 s6 s7 s8 s9 s14 s18 s27 s36 s50 s53 s62 s98 => 
(qO (binop X .and 3 s6 (.int .i64 15)) fun v35 =>
k [s0, s1, s4, s5, s6, (.int .i64 3), v35, s9, s14, s18, s27, s36, s50, s53, s62, s98] H : R))
noncomputable def r151_11 (k : KT R) : KT R := fun fr H => opn 16 fr (fun s0 s1 s4 s5 s6 s7 s8 s9 s14 s18 s27 s36 s50 s53 s62 s98 => 
(qO (binop X .and 3 s6 (.int .i64 7)) fun v44 =>
k [s0, s1, s4, s5, s6, (.int .i64 4), v44, s9, s14, s18, s27, s36, s50, s53, s62, s98] H : R))
noncomputable def r151_3 (k : KT R) : KT R := fun fr H => opn 16 fr (fun s0 s1 s4 s5 s6 s7 s8 s9 s14 s18 s27 s36 s50 s53 s62 s98 => 
(k [s0, s1, (.int .i64 0), (.int .i64 0), s6, s7, s8, s9, s14, s18, s27, s36, s50, s53, s62, s98] H : R))
noncomputable def r151_10 (k : KT R) : KT R := fun fr H => opn 16 fr (fun s0 s1 s4 s5 s6 s7 s8 s9 s14 s18 s27 s36 s50 s53 s62 s98 => 
(qGeq X 3 s6 (.int .i64 240) fun v38 =>
qG v38 true (fun k => k s6 H) H fun v40 H =>
qG v38 true (fun k => qLeq X 3 v40 (.int .i64 244) fun v => k v H) H fun v41 H =>
qPick v38 v41 (.bool false) fun v42 =>
k [s0, s1, s4, s5, s6, s7, s8, s9, s14, s18, s27, v42, s50, s53, s62, s98] H : R))
noncomputable def r151_8 (k : KT R) : KT R := fun fr H => opn 16 fr (fun s0 s1 s4 s5 s6 s7 s8 s9 s14 s18 s27 s36 s50 s53 s62 s98 => 
(qGeq X 3 s6 (.int .i64 224) fun v29 =>
qG v29 true (fun k => k s6 H) H fun v31 H =>
qG v29 true (fun k => qLeq X 3 v31 (.int .i64 239) fun v => k v H) H fun v32 H =>
qPick v29 v32 (.bool false) fun v33 =>
k [s0, s1, s4, s5, s6, s7, s8, s9, s14, s18, v33, s36, s50, s53, s62, s98] H : R))
noncomputable def r151_6 (k : KT R) : KT R := fun fr H => opn 16 fr (fun s0 s1 s4 s5 s6 s7 s8 s9 s14 s18 s27 s36 s50 s53 s62 s98 => 
(qGeq X 3 s6 (.int .i64 194) fun v20 =>
qG v20 true (fun k => k s6 H) H fun v22 H =>
qG v20 true (fun k => qLeq X 3 v22 (.int .i64 223) fun v => k v H) H fun v23 H =>
qPick v20 v23 (.bool false) fun v24 =>
k [s0, s1, s4, s5, s6, s7, s8, s9, s14, v24, s27, s36, s50, s53, s62, s98] H : R))
noncomputable def r151_4 (k : KT R) : KT R := fun fr H => opn 16 fr (fun s0 s1 s4 s5 s6 s7 s8 s9 s14 s18 s27 s36 s50 s53 s62 s98 => 
(qLss X 3 s6 (.int .i64 128) fun v16 =>
k [s0, s1, s4, s5, s6, s7, s8, s9, v16, s18, s27, s36, s50, s53, s62, s98] H : R))
noncomputable def r151_2 (k : KT R) : KT R := fun fr H => opn 16 fr (fun s0 s1 s4 s5 s6 s7 s8 s9 s14 s18 s27 s36 s50 s53 s62 s98 => 
(k [s0, s1, s4, s5, s6, (.int .i64 0), (.int .i64 0), s9, s14, s18, s27, s36, s50, s53, s62, s98] H : R))
noncomputable def r151_1 (k : KT R) : KT R := fun fr H => opn 16 fr (fun s0 s1 s4 s5 s6 s7 s8 s9 s14 s18 s27 s36 s50 s53 s62 s98 => 
(qIx s0 s1 fun v12 =>
qConvI .i64 v12 fun v13 =>
k [s0, s1, s4, s5, v13, s7, s8, s9, s14, s18, s27, s36, s50, s53, s62, s98] H : R))
noncomputable def r151_0 (k : KT R) : KT R := fun fr H => opn 16 fr (fun s0 s1 s4 s5 s6 s7 s8 s9 s14 s18 s27 s36 s50 s53 s62 s98 => 
(k [s0, s1, (.int .i64 0), (.int .i64 0), s6, s7, s8, s9, s14, s18, s27, s36, s50, s53, s62, s98] H : R))
noncomputable def c151 (C : CallF) (l0 : List AV) (H : AH) (k : AV → AH → R) : R := opn 2 l0 (fun x0 x1 => (qFn (fun kr => (r151_0 (r151_1 (r151_2 (qBl (fun k8 => (r151_4 (qCd (sel 8) (fun _ => (r151_5 kr)) (fun k9 => (r151_6 (qCd (sel 9) (fun k10 => (r151_7 k10)) (fun k10 => (r151_8 (qCd (sel 10) (fun k11 => (r151_9 k11)) (fun k11 => (r151_10 (qCd (sel 11) (fun k12 => (r151_11 k12)) (fun _ => (r151_3 kr)) k11))) k10))) k9))) k8))) (r151_12 (qCd (sel 12) (fun _ => (r151_13 kr)) (fun k7 => k7) (r151_14 (qBl (fun k2 => (qLoop (l151_6 k2 kr))) (r151_20 (qCd (sel 15) (fun _ => (r151_21 kr)) (fun k1 => k1) (r151_22 kr))))))))))))
(fun fr H => k (.tup [(sel 2 fr), (sel 3 fr)]) H) [x0, x1, Aes.undef, Aes.undef, Aes.undef, Aes.undef, Aes.undef, Aes.undef, Aes.undef, Aes.undef, Aes.undef, Aes.undef, Aes.undef, Aes.undef, Aes.undef, Aes.undef] H : R))
/- refectory/refectoryref01.Hex -/
noncomputable def r152_15 (k : KT R) : KT R := fun fr H => opn 11 fr (fun s0 s1 s4 s5 s6 s7 s12 s17 s23 s32 s46 => 
(k [s0, s1, s5, s5, s6, s7, s12, s17, s23, s32, s46] H : R))
noncomputable def r152_6 (k : KT R) : KT R := fun fr H => opn 11 fr (fun s0 s1 s4 s5 s6 s7 s12 s17 s23 s32 s46 => 
(qAdd X 3 s6 (.int .i64 1) fun v19 =>
k [s0, s1, s4, s5, v19, s7, s12, s17, s23, s32, s46] H : R))
noncomputable def r152_10 (k : KT R) : KT R := fun fr H => opn 11 fr (fun s0 s1 s4 s5 s6 s7 s12 s17 s23 s32 s46 => 
(qMul X 3 (.int .i64 16) s5 fun v27 =>
qSub X 5 s7 (.int .u8 48) fun v29 =>
qConvI .i64 v29 fun v30 =>
qAdd X 3 v27 v30 fun v31 =>
k [s0, s1, s4, v31, s6, s7, s12, s17, s23, s32, s46] H : R))
noncomputable def r152_12 (k : KT R) : KT R := fun fr H => opn 11 fr (fun s0 s1 s4 s5 s6 s7 s12 s17 s23 s32 s46 => 
(qMul X 3 (.int .i64 16) s5 fun v40 =>
qSub X 5 s7 (.int .u8 97) fun v42 =>
qConvI .i64 v42 fun v43 =>
qAdd X 3 v40 v43 fun v44 =>
qAdd X 3 v44 (.int .i64 10) fun v45 =>
k [s0, s1, s4, v45, s6, s7, s12, s17, s23, s32, s46] H : R))
noncomputable def r152_14 (k : KT R) : KT R := fun fr H => opn 11 fr (fun s0 s1 s4 s5 s6 s7 s12 s17 s23 s32 s46 => 
(qMul X 3 (.int .i64 16) s5 fun v54 =>
qSub X 5 s7 (.int .u8 65) fun v56 =>
qConvI .i64 v56 fun v57 =>
qAdd X 3 v54 v57 fun v58 =>
qAdd X 3 v58 (.int .i64 10) fun v59 =>
k [s0, s1, s4, v59, s6, s7, s12, s17, s23, s32, s46] H : R))
noncomputable def r152_8 (k : KT R) : KT R := fun fr H => opn 11 fr (fun s0 s1 s4 s5 s6 s7 s12 s17 s23 s32 s46 => 
(k [s0, s1, (.int .i64 (-1)), s5, s6, s7, s12, s17, s23, s32, s46] H : R))
noncomputable def r152_13 (k : KT R) : KT R := fun fr H => opn 11 fr (fun s0 s1 s4 s5 s6 s7 s12 s17 s23 s32 s46 => 
(qGeq X 5 s7 (.int .u8 65) fun v48 =>
qG v48 true (fun k => k s7 H) H fun v50 H =>
qG v48 true (fun k => qLeq X 5 v50 (.int .u8 70) fun v => k v H) H fun v51 H =>
qPick v48 v51 (.bool false) fun v52 =>
k [s0, s1, s4, s5, s6, s7, s12, s17, s23, s32, v52] H : R))
noncomputable def r152_11 (k : KT R) : KT R := fun fr H => opn 11 fr (fun s0 s1 s4 s5 s6 s7 s12 s17 s23 s32 s46 => 
(qGeq X 5 s7 (.int .u8 97) fun v34 =>
qG v34 true (fun k => k s7 H) H fun v36 H =>
qG v34 true (fun k => qLeq X 5 v36 (.int .u8 102) fun v => k v H) H fun v37 H =>
qPick v34 v37 (.bool false) fun v38 =>
k [s0, s1, s4, s5, s6, s7, s12, s17, s23, v38, s46] H : R))
noncomputable def r152_9 (C : CallF) (k : KT R) : KT R := fun fr H => opn 11 fr (fun s0 s1 s4 s5 s6 s7 s12 s17 s23 s32 s46 => 
(qRes (C 60 [s7] H) fun v25 H =>
k [s0, s1, s4, s5, s6, s7, s12, s17, v25, s32, s46] H : R))
noncomputable def r152_7 (k : KT R) : KT R := fun fr H => opn 11 fr (fun s0 s1 s4 s5 s6 s7 s12 s17 s23 s32 s46 => 
(qIx s0 s6 fun v22 =>
k [s0, s1, s4, s5, s6, v22, s12, s17, s23, s32, s46] H : R))
noncomputable def r152_5 (k : KT R) : KT R := fun fr H => opn 11 fr (fun s0 s1 s4 s5 s6 s7 s12 s17 s23 s32 s46 => 
(qAdd X 3 s1 (.int .i64 4) fun v16 =>
qLss X 3 s6 v16 fun v17 =>
k [s0, s1, s4, s5, s6, s7, s12, v17, s23, s32, s46] H : R))
noncomputable def l152_8 (C : CallF) (k1 : KT R) (kr : KT R) : KT R → KT R := fun k2 => (r152_5 (qCd (sel 7) (fun k8 => k8) (fun _ => k1) (qBl (fun k3 => (r152_7 (qBl (fun k4 => (r152_9 C (qCd (sel 8) (fun k5 => (r152_10 k5)) (fun k5 => (r152_11 (qCd (sel 9) (fun k6 => (r152_12 k6)) (fun k6 => (r152_13 (qCd (sel 10) (fun k7 => (r152_14 k7)) (fun _ => (r152_8 kr)) k6))) k5))) k4))) k3))) (r152_6 k2))))
noncomputable def r152_4 (k : KT R) : KT R := fun fr H => opn 11 fr (fun s0 s1 s4 s5 s6 s7 s12 s17 s23 s32 s46 => 
(k [s0, s1, s4, s5, s1, s7, s12, s17, s23, s32, s46] H : R))
noncomputable def r152_3 (k : KT R) : KT R := fun fr H => opn 11 fr (fun s0 s1 s4 s5 s6 s7 s12 s17 s23 s32 s46 => 
(k [s0, s1, s4, (.int .i64 0), s6, s7, s12, s17, s23, s32, s46] H : R))
noncomputable def r152_2 (k : KT R) : KT R := fun fr H => opn 11 fr (fun s0 s1 s4 s5 s6 s7 s12 s17 s23 s32 s46 => 
(k [s0, s1, (.int .i64 (-1)), s5, s6, s7, s12, s17, s23, s32, s46] H : R))
noncomputable def r152_1 (k : KT R) : KT R := fun fr H => opn 11 fr (fun s0 s1 s4 s5 s6 s7 s12 s17 s23 s32 s46 => 
(qAdd X 3 s1 (.int .i64 4) fun v9 =>
qLenS s0 fun v11 =>
qGtr X 3 v9 v11 fun v12 =>
k [s0, s1, s4, s5, s6, s7, v12, s17, s23, s32, s46] H : R))
noncomputable def r152_0 (k : KT R) : KT R := fun fr H => opn 11 fr (fun s0 s1 s4 s5 s6 s7 s12 s17 s23 s32 s46 => 
(k [s0, s1, (.int .i64 0), s5, s6, s7, s12, s17, s23, s32, s46] H : R))
noncomputable def c152 (C : CallF) (l0 : List AV) (H : AH) (k : AV → AH → R) : R := opn 2 l0 (fun x0 x1 => (qFn (fun kr => (r152_0 (r152_1 (qCd (sel 6) (fun _ => (r152_2 kr)) (fun k9 => k9) (r152_3 (r152_4 (qBl (fun k1 => (qLoop (l152_8 C k1 kr))) (r152_15 kr))))))))
(fun fr H => k (sel 2 fr) H) [x0, x1, Aes.undef, Aes.undef, Aes.undef, Aes.undef, Aes.undef, Aes.undef, Aes.undef, Aes.undef, Aes.undef] H : R))
/- refectory/refectoryref01.bytes -/
noncomputable def r153_7 (k : KT R) : KT R := fun fr H => opn 5 fr (fun s0 s2 s3 s10 s23 => 
(qO (binop X .shr 3 s0 (.int .u64 18)) fun v42 =>
qO (binop X .or 3 (.int .i64 240) v42) fun v43 =>
qConvI .u8 v43 fun v44 =>
qO (binop X .shr 3 s0 (.int .u64 12)) fun v46 =>
qO (binop X .and 3 v46 (.int .i64 63)) fun v47 =>
qO (binop X .or 3 (.int .i64 128) v47) fun v48 =>
qConvI .u8 v48 fun v49 =>
qO (binop X .shr 3 s0 (.int .u64 6)) fun v51 =>
qO (binop X .and 3 v51 (.int .i64 63)) fun v52 =>
qO (binop X .or 3 (.int .i64 128) v52) fun v53 =>
qConvI .u8 v53 fun v54 =>
qO (binop X .and 3 s0 (.int .i64 63)) fun v56 =>
qO (binop X .or 3 (.int .i64 128) v56) fun v57 =>
qConvI .u8 v57 fun v58 =>
qRows z5 4 [(0, v44), (1, v49), (2, v54), (3, v58)] fun v59 =>
qBstr v59 H fun v60 =>
k [s0, v60, s3, s10, s23] H : R))
noncomputable def r153_2 (k : KT R) : KT R := fun fr H => opn 5 fr (fun s0 s2 s3 s10 s23 => 
(qConvI .u8 s0 fun v7 =>
qRows z5 1 [(0, v7)] fun v8 =>
qBstr v8 H fun v9 =>
k [s0, v9, s3, s10, s23] H : R))
noncomputable def r153_4 (k : KT R) : KT R := fun fr H => opn 5 fr (fun s0 s2 s3 s10 s23 => 
(qO (binop X .shr 3 s0 (.int .u64 6)) fun v14 =>
qO (binop X .or 3 (.int .i64 192) v14) fun v15 =>
qConvI .u8 v15 fun v16 =>
qO (binop X .and 3 s0 (.int .i64 63)) fun v18 =>
qO (binop X .or 3 (.int .i64 128) v18) fun v19 =>
qConvI .u8 v19 fun v20 =>
qRows z5 2 [(0, v16), (1, v20)] fun v21 =>
qBstr v21 H fun v22 =>
k [s0, v22, s3, s10, s23] H : R))
noncomputable def r153_6 (k : KT R) : KT R := fun fr H => opn 5 fr (fun s0 s2 s3 s10 s23 => 
(qO (binop X .shr 3 s0 (.int .u64 12)) fun v27 =>
qO (binop X .or 3 (.int .i64 224) v27) fun v28 =>
qConvI .u8 v28 fun v29 =>
qO (binop X .shr 3 s0 (.int .u64 6)) fun v31 =>
qO (binop X .and 3 v31 (.int .i64 63)) fun v32 =>
qO (binop X .or 3 (.int .i64 128) v32) fun v33 =>
qConvI .u8 v33 fun v34 =>
qO (binop X .and 3 s0 (.int .i64 63)) fun v36 =>
qO (binop X .or 3 (.int .i64 128) v36) fun v37 =>
qConvI .u8 v37 fun v38 =>
qRows z5 3 [(0, v29), (1, v34), (2, v38)] fun v39 =>
qBstr v39 H fun v40 =>
k [s0, v40, s3, s10, s23] H : R))
noncomputable def r153_5 (k : KT R) : KT R := fun fr H => opn 5 fr (fun s0 s2 s3 s10 s23 => 
(qLss X 3 s0 (.int .i64 65536) fun v25 =>
k [s0, s2, s3, s10, v25] H : R))
noncomputable def r153_3 (k : KT R) : KT R := fun fr H => opn 5 fr (fun s0 s2 s3 s10 s23 => 
(qLss X 3 s0 (.int .i64 2048) fun v12 =>
k [s0, s2, s3, v12, s23] H : R))
noncomputable def r153_1 (k : KT R) : KT R := fun fr H => opn 5 fr (fun s0 s2 s3 s10 s23 => 
(qLss X 3 s0 (.int .i64 128) fun v5 =>
k [s0, s2, v5, s10, s23] H : R))
noncomputable def r153_0 (k : KT R) : KT R := fun fr H => opn 5 fr (fun s0 s2 s3 s10 s23 => 
(k [s0, (.str []), s3, s10, s23] H : R))
noncomputable def c153 (C : CallF) (l0 : List AV) (H : AH) (k : AV → AH → R) : R := opn 1 l0 (fun x0 => (qFn (fun kr => (r153_0 (qBl (fun k1 => (r153_1 (qCd (sel 2) (fun _ => (r153_2 kr)) (fun k2 => (r153_3 (qCd (sel 3) (fun _ => (r153_4 kr)) (fun k3 => (r153_5 (qCd (sel 4) (fun _ => (r153_6 kr)) (fun k4 => k4) k3))) k2))) k1))) (r153_7 kr))))
(fun fr H => k (sel 1 fr) H) [x0, Aes.undef, Aes.undef, Aes.undef, Aes.undef] H : R))
end
theorem e122 {R : Type} [Mon R] : hFn (R := R) X 122 Tryz.f122 2 [0, 1, 4, 5, 6, 7, 11, 21, 41, 59] = c122 := by kernel_rfl
theorem xf122 : X.fn 122 = some Tryz.f122 := by kernel_rfl
theorem e123 {R : Type} [Mon R] : hFn (R := R) X 123 Tryz.f123 1 [0, 2, 3, 4, 5, 6, 7, 8, 29, 38, 48, 61, 69] = c123 := by kernel_rfl
theorem xf123 : X.fn 123 = some Tryz.f123 := by kernel_rfl
theorem e124 {R : Type} [Mon R] : hFn (R := R) X 124 Tryz.f124 2 [0, 1, 4, 5, 6, 7, 8, 9, 20] = c124 := by kernel_rfl
theorem xf124 : X.fn 124 = some Tryz.f124 := by kernel_rfl
theorem e125 {R : Type} [Mon R] : hFn (R := R) X 125 Tryz.f125 1 [0, 2, 3, 4, 5, 8, 13, 18, 30] = c125 := by kernel_rfl
theorem xf125 : X.fn 125 = some Tryz.f125 := by kernel_rfl
theorem e126 {R : Type} [Mon R] : hFn (R := R) X 126 Tryz.f126 2 [0, 1, 4, 5, 6, 13, 19, 49, 61, 68] = c126 := by kernel_rfl
theorem xf126 : X.fn 126 = some Tryz.f126 := by kernel_rfl
theorem e129 {R : Type} [Mon R] : hFn (R := R) X 129 Tryz.f129 2 [0, 1, 4, 5, 6, 7, 8, 9, 10, 11, 12, 13, 14, 15, 16, 26, 33, 43, 51, 64, 98, 108, 124, 139, 143, 156, 160, 171, 175, 176, 177, 181, 183] = c129 := by kernel_rfl
theorem xf129 : X.fn 129 = some Tryz.f129 := by kernel_rfl
theorem e130 {R : Type} [Mon R] : hFn (R := R) X 130 Tryz.f130 1 [0, 2] = c130 := by kernel_rfl
theorem xf130 : X.fn 130 = some Tryz.f130 := by kernel_rfl
theorem e131 {R : Type} [Mon R] : hFn (R := R) X 131 Tryz.f131 2 [0, 1, 4] = c131 := by kernel_rfl
theorem xf131 : X.fn 131 = some Tryz.f131 := by kernel_rfl
theorem e133 {R : Type} [Mon R] : hFn (R := R) X 133 Tryz.f133 1 [0, 2] = c133 := by kernel_rfl
theorem xf133 : X.fn 133 = some Tryz.f133 := by kernel_rfl
theorem e135 {R : Type} [Mon R] : hFn (R := R) X 135 Tryz.f135 1 [0, 2, 3, 4, 5, 6, 7, 8, 9, 15, 38, 47, 78, 100, 109, 113] = c135 := by kernel_rfl
theorem xf135 : X.fn 135 = some Tryz.f135 := by kernel_rfl
theorem e136 {R : Type} [Mon R] : hFn (R := R) X 136 Tryz.f136 1 [0, 2, 3, 5, 9, 17] = c136 := by kernel_rfl
theorem xf136 : X.fn 136 = some Tryz.f136 := by kernel_rfl
theorem e137 {R : Type} [Mon R] : hFn (R := R) X 137 Tryz.f137 2 [0, 1, 4, 5, 6, 7, 11, 14, 15, 24, 26, 28, 30, 32, 34, 66, 76, 94] = c137 := by kernel_rfl
theorem xf137 : X.fn 137 = some Tryz.f137 := by kernel_rfl
theorem e138 {R : Type} [Mon R] : hFn (R := R) X 138 Tryz.f138 2 [0, 1, 4, 5, 6, 7, 10, 17, 44] = c138 := by kernel_rfl
theorem xf138 : X.fn 138 = some Tryz.f138 := by kernel_rfl
theorem e139 {R : Type} [Mon R] : hFn (R := R) X 139 Tryz.f139 1 [0, 2, 3, 4, 9] = c139 := by kernel_rfl
theorem xf139 : X.fn 139 = some Tryz.f139 := by kernel_rfl
theorem e140 {R : Type} [Mon R] : hFn (R := R) X 140 Tryz.f140 5 [0, 1, 2, 3, 4, 10, 11, 15, 29, 31] = c140 := by kernel_rfl
theorem xf140 : X.fn 140 = some Tryz.f140 := by kernel_rfl
theorem e145 {R : Type} [Mon R] : hFn (R := R) X 145 Tryz.f145 2 [0, 1, 4] = c145 := by kernel_rfl
theorem xf145 : X.fn 145 = some Tryz.f145 := by kernel_rfl
theorem e146 {R : Type} [Mon R] : hFn (R := R) X 146 Tryz.f146 1 [0, 2, 3, 10] = c146 := by kernel_rfl
theorem xf146 : X.fn 146 = some Tryz.f146 := by kernel_rfl
theorem e149 {R : Type} [Mon R] : hFn (R := R) X 149 Tryz.f149 1 [0, 2, 3, 4, 5, 9, 21, 46] = c149 := by kernel_rfl
theorem xf149 : X.fn 149 = some Tryz.f149 := by kernel_rfl
theorem e150 {R : Type} [Mon R] : hFn (R := R) X 150 Tryz.f150 1 [0, 2, 3, 19] = c150 := by kernel_rfl
theorem xf150 : X.fn 150 = some Tryz.f150 := by kernel_rfl
theorem e151 {R : Type} [Mon R] : hFn (R := R) X 151 Tryz.f151 2 [0, 1, 4, 5, 6, 7, 8, 9, 14, 18, 27, 36, 50, 53, 62, 98] = c151 := by kernel_rfl
theorem xf151 : X.fn 151 = some Tryz.f151 := by kernel_rfl
theorem e152 {R : Type} [Mon R] : hFn (R := R) X 152 Tryz.f152 2 [0, 1, 4, 5, 6, 7, 12, 17, 23, 32, 46] = c152 := by kernel_rfl
theorem xf152 : X.fn 152 = some Tryz.f152 := by kernel_rfl
theorem e153 {R : Type} [Mon R] : hFn (R := R) X 153 Tryz.f153 1 [0, 2, 3, 10, 23] = c153 := by kernel_rfl
theorem xf153 : X.fn 153 = some Tryz.f153 := by kernel_rfl
end T
