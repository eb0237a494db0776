import Derived.Test.YtocngckbmjfddaaLitRb1
set_option linter.all false
set_option maxRecDepth 100000
set_option linter.unusedVariables false
open Go Go.Aes Go.Proofs
namespace T
section
variable {R : Type} [Mon R]
/- slices.Contains[[]string,string] -/
noncomputable def r71_1 (C : CallF) (k : KT R) : KT R := fun fr H => opn 3 fr (fun s0 s1 s4 => 
(qRes (C 112 [s0, s1] H) fun v7 H =>
qGeq X 3 v7 (.int .i64 0) fun v8 =>
k [s0, s1, v8] H : R))
noncomputable def r71_0 (k : KT R) : KT R := fun fr H => opn 3 fr (fun s0 s1 s4 => 
(k [s0, s1, (.bool false)] H : R))
noncomputable def c71 (C : CallF) (l0 : List AV) (H : AH) (k : AV → AH → R) : R := opn 2 l0 (fun x0 x1 => (qFn (fun kr => (r71_0 (r71_1 C kr)))
(fun fr H => k (sel 2 fr) H) [x0, x1, undef] H : R))
/- slices.IndexFunc[[]refectory/api.Frag,refectory/api.Frag] -/
noncomputable def r72_7 (k : KT R) : KT R := fun fr H => opn 8 fr (fun s0 s1 s4 s5 s7 s8 s9 s16 => 
(k [s0, s1, (.int .i64 (-1)), s5, s7, s8, s9, s16] H : R))
noncomputable def r72_6 (k : KT R) : KT R := fun fr H => opn 8 fr (fun s0 s1 s4 s5 s7 s8 s9 s16 => 
(qAdd X 3 s8 (.int .i64 1) fun v18 =>
k [s0, s1, s4, s5, s7, v18, s9, s16] H : R))
noncomputable def r72_5 (k : KT R) : KT R := fun fr H => opn 8 fr (fun s0 s1 s4 s5 s7 s8 s9 s16 => 
(k [s0, s1, s5, s5, s7, s8, s9, s16] H : R))
noncomputable def r72_4 (C : CallF) (k : KT R) : KT R := fun fr H => opn 8 fr (fun s0 s1 s4 s5 s7 s8 s9 s16 => 
(qIa 4 s0 s5 fun v14 =>
qLdA 4 v14 H fun v15 =>
qCallV C s1 [v15] H fun v16 H =>
k [s0, s1, s4, s5, s7, s8, s9, v16] H : R))
noncomputable def r72_3 (k : KT R) : KT R := fun fr H => opn 8 fr (fun s0 s1 s4 s5 s7 s8 s9 s16 => 
(k [s0, s1, s4, s8, s7, s8, s9, s16] H : R))
noncomputable def r72_2 (k : KT R) : KT R := fun fr H => opn 8 fr (fun s0 s1 s4 s5 s7 s8 s9 s16 => 
(qLss X 3 s8 s7 fun v9 =>
k [s0, s1, s4, s5, s7, s8, v9, s16] H : R))
noncomputable def l72_5 (C : CallF) (k1 : KT R) (kr : KT R) : KT R → KT R := fun k2 => (r72_2 (qCd (sel 6) (fun k5 => k5) (fun _ => k1) (qBl (fun k3 => (r72_3 (r72_4 C (qCd (sel 7) (fun _ => (r72_5 kr)) (fun k4 => k4) k3)))) (r72_6 k2))))
noncomputable def r72_1 (k : KT R) : KT R := fun fr H => opn 8 fr (fun s0 s1 s4 s5 s7 s8 s9 s16 => 
(qLenL s0 fun v7 =>
k [s0, s1, s4, s5, v7, (.int .i64 0), s9, s16] H : R))
noncomputable def r72_0 (k : KT R) : KT R := fun fr H => opn 8 fr (fun s0 s1 s4 s5 s7 s8 s9 s16 => 
(k [s0, s1, (.int .i64 0), s5, s7, s8, s9, s16] H : R))
noncomputable def c72 (C : CallF) (l0 : List AV) (H : AH) (k : AV → AH → R) : R := opn 2 l0 (fun x0 x1 => (qFn (fun kr => (r72_0 (r72_1 (qBl (fun k1 => (qLoop (l72_5 C k1 kr))) (r72_7 kr)))))
(fun fr H => k (sel 2 fr) H) [x0, x1, undef, undef, undef, undef, undef, undef] H : R))
/- refectory/frags.Find$1 -/
noncomputable def r73_1 (k : KT R) : KT R := fun fr H => opn 4 fr (fun s0 s1 s2 s3 => 
(qFa 0 s2 fun v4 =>
qLd v4 H fun v5 =>
qLd s1 H fun v6 =>
qEql X 9 v5 v6 fun v7 =>
k [s0, s1, s2, v7] H : R))
noncomputable def r73_0 (k : KT R) : KT R := fun fr H => opn 4 fr (fun s0 s1 s2 s3 => 
(qBox s0 H fun v2 H =>
k [s0, s1, v2, (.bool false)] H : R))
noncomputable def c73 (C : CallF) (l0 : List AV) (H : AH) (k : AV → AH → R) : R := opn 2 l0 (fun x0 x1 => (qFn (fun kr => (r73_0 (r73_1 kr)))
(fun fr H => k (sel 3 fr) H) [x0, x1, undef, undef] H : R))
/- refectory/refectoryref09.Possible -/
noncomputable def r74_12 (k : KT R) : KT R := fun fr H => opn 13 fr (fun s0 s1 s2 s4 s5 s7 s8 s9 s10 s22 s38 s48 s80 => 
(k [s0, s1, s2, s7, s5, s7, s8, s9, s10, s22, s38, s48, s80] H : R))
noncomputable def r74_5 (k : KT R) : KT R := fun fr H => opn 13 fr (fun s0 s1 s2 s4 s5 s7 s8 s9 s10 s22 s38 s48 s80 => 
(qAdd X 3 s8 (.int .i64 1) fun v24 =>
k [s0, s1, s2, s4, s5, s7, v24, s9, s10, s22, s38, s48, s80] H : R))
noncomputable def r74_11 (k : KT R) : KT R := fun fr H => opn 13 fr (fun s0 s1 s2 s4 s5 s7 s8 s9 s10 s22 s38 s48 s80 => 
(qFa 1 s9 fun v82 =>
qLd v82 H fun v83 =>
qRows z9 1 [(0, v83)] fun v84 =>
qApp 1 16 s7 v84 false H fun v85 H =>
k [s0, s1, s2, s4, s5, v85, s8, s9, s10, s22, s38, s48, s80] H : R))
noncomputable def r74_10 (C : CallF) (k : KT R) : KT R := fun fr H => opn 13 fr (fun s0 s1 s2 s4 s5 s7 s8 s9 s10 s22 s38 s48 s80 => 
(qFa 0 s5 fun v49 =>
qLd v49 H fun v50 =>
qEql X 3 v50 (.int .i64 2) fun v51 =>
qG v51 true (fun k => qFa 1 s9 fun v => k v H) H fun v53 H =>
qG v51 true (fun k => qLd v53 H fun v => k v H) H fun v54 H =>
qG v51 true (fun k => k s1 H) H fun v55 H =>
qG v51 true (fun k => qEql X 9 v54 v55 fun v => k v H) H fun v56 H =>
qPick v51 v56 (.bool false) fun v57 =>
qG v57 false (fun k => qFa 0 s5 fun v => k v H) H fun v59 H =>
qG v57 false (fun k => qLd v59 H fun v => k v H) H fun v60 H =>
qG v57 false (fun k => qEql X 3 v60 (.int .i64 3) fun v => k v H) H fun v61 H =>
qG v57 false (fun k => k v61 H) H fun v62 H =>
qG v62 true (fun k => qFa 2 s9 fun v => k v H) H fun v63 H =>
qG v62 true (fun k => qLd v63 H fun v => k v H) H fun v64 H =>
qG v62 true (fun k => k s1 H) H fun v65 H =>
qG v62 true (fun k => qRes (C 76 [v64, v65] H) k) H fun v66 H =>
qG v57 false (fun k => qPick v62 v66 (.bool false) fun v => k v H) H fun v67 H =>
qPick v57 (.bool true) v67 fun v68 =>
qG v68 false (fun k => qFa 0 s5 fun v => k v H) H fun v70 H =>
qG v68 false (fun k => qLd v70 H fun v => k v H) H fun v71 H =>
qG v68 false (fun k => qEql X 3 v71 (.int .i64 4) fun v => k v H) H fun v72 H =>
qG v68 false (fun k => k v72 H) H fun v73 H =>
qG v73 true (fun k => qFa 2 s5 fun v => k v H) H fun v74 H =>
qG v73 true (fun k => qLd v74 H fun v => k v H) H fun v75 H =>
qG v73 true (fun k => qFa 1 s9 fun v => k v H) H fun v76 H =>
qG v73 true (fun k => qLd v76 H fun v => k v H) H fun v77 H =>
qG v73 true (fun k => qRes (C 76 [v75, v77] H) k) H fun v78 H =>
qG v68 false (fun k => qPick v73 v78 (.bool false) fun v => k v H) H fun v79 H =>
qPick v68 (.bool true) v79 fun v80 =>
k [s0, s1, s2, s4, s5, s7, s8, s9, s10, s22, s38, s48, v80] H : R))
noncomputable def r74_9 (k : KT R) : KT R := fun fr H => opn 13 fr (fun s0 s1 s2 s4 s5 s7 s8 s9 s10 s22 s38 s48 s80 => 
(qFa 0 s10 fun v46 =>
qLd v46 H fun v47 =>
qNeq X 3 v47 (.int .i64 2) fun v48 =>
k [s0, s1, s2, s4, s5, s7, s8, s9, s10, s22, s38, v48, s80] H : R))
noncomputable def r74_8 (C : CallF) (k : KT R) : KT R := fun fr H => opn 13 fr (fun s0 s1 s2 s4 s5 s7 s8 s9 s10 s22 s38 s48 s80 => 
(qLdA 3 s2 H fun v40 =>
qFa 1 s9 fun v41 =>
qLd v41 H fun v42 =>
qRes (C 42 [v40, v42] H) fun v43 H =>
qExt v43 0 fun v44 =>
qExt v43 1 fun v45 =>
qNew (.cells z110) .ptr H fun v10 H =>
qSt 5 v10 v44 H fun _ H =>
k [s0, s1, s2, s4, s5, s7, s8, s9, v10, s22, s38, s48, s80] H : R))
noncomputable def r74_7 (C : CallF) (k : KT R) : KT R := fun fr H => opn 13 fr (fun s0 s1 s2 s4 s5 s7 s8 s9 s10 s22 s38 s48 s80 => 
(qFa 0 s9 fun v30 =>
qLd v30 H fun v31 =>
qNeq X 3 v31 (.int .i64 2) fun v32 =>
qG v32 false (fun k => k s7 H) H fun v34 H =>
qG v32 false (fun k => qFa 1 s9 fun v => k v H) H fun v35 H =>
qG v32 false (fun k => qLd v35 H fun v => k v H) H fun v36 H =>
qG v32 false (fun k => qRes (C 76 [v34, v36] H) k) H fun v37 H =>
qPick v32 (.bool true) v37 fun v38 =>
k [s0, s1, s2, s4, s5, s7, s8, s9, s10, s22, v38, s48, s80] H : R))
noncomputable def r74_6 (k : KT R) : KT R := fun fr H => opn 13 fr (fun s0 s1 s2 s4 s5 s7 s8 s9 s10 s22 s38 s48 s80 => 
(qFa 2 s2 fun v25 =>
qLd v25 H fun v26 =>
qIa 5 v26 s8 fun v28 =>
qLdA 5 v28 H fun v29 =>
qNew (.cells z110) .ptr H fun v9 H =>
qSt 5 v9 v29 H fun _ H =>
k [s0, s1, s2, s4, s5, s7, s8, v9, s10, s22, s38, s48, s80] H : R))
noncomputable def r74_4 (k : KT R) : KT R := fun fr H => opn 13 fr (fun s0 s1 s2 s4 s5 s7 s8 s9 s10 s22 s38 s48 s80 => 
(qFa 2 s2 fun v19 =>
qLd v19 H fun v20 =>
qLenL v20 fun v21 =>
qLss X 3 s8 v21 fun v22 =>
k [s0, s1, s2, s4, s5, s7, s8, s9, s10, v22, s38, s48, s80] H : R))
noncomputable def l74_7 (C : CallF) (k1 : KT R) : KT R → KT R := fun k2 => (r74_4 (qCd (sel 9) (fun k7 => k7) (fun _ => k1) (qBl (fun k3 => (r74_6 (r74_7 C (qCd (sel 10) (fun _ => k3) (fun k6 => k6) (r74_8 C (r74_9 (qCd (sel 11) (fun _ => k3) (fun k5 => k5) (r74_10 C (qCd (sel 12) (fun k4 => (r74_11 k4)) (fun k4 => k4) k3))))))))) (r74_5 k2))))
noncomputable def r74_3 (k : KT R) : KT R := fun fr H => opn 13 fr (fun s0 s1 s2 s4 s5 s7 s8 s9 s10 s22 s38 s48 s80 => 
(k [s0, s1, s2, s4, s5, s7, (.int .i64 0), s9, s10, s22, s38, s48, s80] H : R))
noncomputable def r74_2 (k : KT R) : KT R := fun fr H => opn 13 fr (fun s0 s1 s2 s4 s5 s7 s8 s9 s10 s22 s38 s48 s80 => 
(k [s0, s1, s2, s4, s5, (.sl [] .nil), s8, s9, s10, s22, s38, s48, s80] H : R))
noncomputable def r74_1 (C : CallF) (k : KT R) : KT R := fun fr H => opn 13 fr (fun s0 s1 s2 s4 s5 s7 s8 s9 s10 s22 s38 s48 s80 => 
(qLdA 3 s2 H fun v13 =>
qRes (C 42 [v13, s1] H) fun v15 H =>
qExt v15 0 fun v16 =>
qExt v15 1 fun v17 =>
qNew (.cells z110) .ptr H fun v5 H =>
qSt 5 v5 v16 H fun _ H =>
k [s0, s1, s2, s4, v5, s7, s8, s9, s10, s22, s38, s48, s80] H : R))
noncomputable def r74_0 (k : KT R) : KT R := fun fr H => opn 13 fr (fun s0 s1 s2 s4 s5 s7 s8 s9 s10 s22 s38 s48 s80 => 
(qBox s0 H fun v2 H =>
k [s0, s1, v2, (.sl [] .nil), s5, s7, s8, s9, s10, s22, s38, s48, s80] H : R))
noncomputable def c74 (C : CallF) (l0 : List AV) (H : AH) (k : AV → AH → R) : R := opn 2 l0 (fun x0 x1 => (qFn (fun kr => (r74_0 (r74_1 C (r74_2 (r74_3 (qBl (fun k1 => (qLoop (l74_7 C k1))) (r74_12 kr)))))))
(fun fr H => k (sel 3 fr) H) [x0, x1, undef, undef, undef, undef, undef, undef, undef, undef, undef, undef, undef] H : R))
/- (*refectory/refectorylaw00.G).dirs -/
noncomputable def r75_7 (k : KT R) : KT R := fun fr H => opn 6 fr (fun s0 s2 s3 s4 s8 s16 => 
(qBld z191 [(0, 1, (.str [115,107,105,112])), (1, 1, (.str [105,110,99,108,117,100,101]))] fun v21 =>
qO (indexOf X 191 v21 s3) fun v23 =>
qLdA 4 s4 H fun v24 =>
qBld z38 [(0, 1, (.str [105,102])), (1, 4, v24)] fun v25 =>
qRows z38 1 [(0, v25)] fun v26 =>
qBld z40 [(0, 1, v23), (1, 1, v26)] fun v27 =>
qRows z40 1 [(0, v27)] fun v28 =>
k [s0, v28, s3, s4, s8, s16] H : R))
noncomputable def r75_6 (C : CallF) (k : KT R) : KT R := fun fr H => opn 6 fr (fun s0 s2 s3 s4 s8 s16 => 
(qBld z115 [(0, 1, (.str [66,111,111,108,101,97,110])), (1, 1, (.str [33]))] fun v18 =>
qBld z30 [(0, 1, (.int .i64 2)), (1, 1, (.str [116,114,117,101]))] fun v19 =>
qRes (C 113 [s0, (.str [111,110]), v18, v19] H) fun v20 H =>
qSt 4 s4 v20 H fun _ H =>
k [s0, s2, s3, s4, s8, s16] H : R))
noncomputable def r75_5 (C : CallF) (k : KT R) : KT R := fun fr H => opn 6 fr (fun s0 s2 s3 s4 s8 s16 => 
(qRes (C 39 [s0, (.int .i64 2)] H) fun v15 H =>
qEql X 3 v15 (.int .i64 0) fun v16 =>
k [s0, s2, s3, s4, s8, v16] H : R))
noncomputable def r75_4 (C : CallF) (k : KT R) : KT R := fun fr H => opn 6 fr (fun s0 s2 s3 s4 s8 s16 => 
(qBld z191 [(0, 1, (.str [116,114,117,101])), (1, 1, (.str [102,97,108,115,101]))] fun v9 =>
qRes (C 39 [s0, (.int .i64 2)] H) fun v11 H =>
qO (indexOf X 191 v9 v11) fun v12 =>
qBld z30 [(0, 1, (.int .i64 2)), (1, 1, v12)] fun v13 =>
qNew (.cells z30) .ptr H fun v4 H =>
qSt 4 v4 v13 H fun _ H =>
k [s0, s2, s3, v4, s8, s16] H : R))
noncomputable def r75_3 (k : KT R) : KT R := fun fr H => opn 6 fr (fun s0 s2 s3 s4 s8 s16 => 
(k [s0, (.sl [] .nil), s3, s4, s8, s16] H : R))
noncomputable def r75_2 (k : KT R) : KT R := fun fr H => opn 6 fr (fun s0 s2 s3 s4 s8 s16 => 
(qGtr X 3 s3 (.int .i64 1) fun v8 =>
k [s0, s2, s3, s4, v8, s16] H : R))
noncomputable def r75_1 (C : CallF) (k : KT R) : KT R := fun fr H => opn 6 fr (fun s0 s2 s3 s4 s8 s16 => 
(qRes (C 39 [s0, (.int .i64 9)] H) fun v6 H =>
k [s0, s2, v6, s4, s8, s16] H : R))
noncomputable def r75_0 (k : KT R) : KT R := fun fr H => opn 6 fr (fun s0 s2 s3 s4 s8 s16 => 
(k [s0, (.sl [] .nil), s3, s4, s8, s16] H : R))
noncomputable def c75 (C : CallF) (l0 : List AV) (H : AH) (k : AV → AH → R) : R := opn 1 l0 (fun x0 => (qFn (fun kr => (r75_0 (r75_1 C (r75_2 (qCd (sel 4) (fun _ => (r75_3 kr)) (fun k2 => k2) (r75_4 C (r75_5 C (qCd (sel 5) (fun k1 => (r75_6 C k1)) (fun k1 => k1) (r75_7 kr)))))))))
(fun fr H => k (sel 1 fr) H) [x0, undef, undef, undef, undef, undef] H : R))
/- refectory/refectoryref05.Has -/
noncomputable def r76_6 (k : KT R) : KT R := fun fr H => opn 6 fr (fun s0 s1 s4 s5 s9 s17 => 
(k [s0, s1, (.bool false), s5, s9, s17] H : R))
noncomputable def r76_3 (k : KT R) : KT R := fun fr H => opn 6 fr (fun s0 s1 s4 s5 s9 s17 => 
(qAdd X 3 s5 (.int .i64 1) fun v11 =>
k [s0, s1, s4, v11, s9, s17] H : R))
noncomputable def r76_5 (k : KT R) : KT R := fun fr H => opn 6 fr (fun s0 s1 s4 s5 s9 s17 => 
(k [s0, s1, (.bool true), s5, s9, s17] H : R))
noncomputable def r76_4 (k : KT R) : KT R := fun fr H => opn 6 fr (fun s0 s1 s4 s5 s9 s17 => 
(qIa 1 s0 s5 fun v14 =>
qLd v14 H fun v15 =>
qEql X 9 v15 s1 fun v17 =>
k [s0, s1, s4, s5, s9, v17] H : R))
noncomputable def r76_2 (k : KT R) : KT R := fun fr H => opn 6 fr (fun s0 s1 s4 s5 s9 s17 => 
(qLenL s0 fun v8 =>
qLss X 3 s5 v8 fun v9 =>
k [s0, s1, s4, s5, v9, s17] H : R))
noncomputable def l76_5 (k1 : KT R) (kr : KT R) : KT R → KT R := fun k2 => (r76_2 (qCd (sel 4) (fun k5 => k5) (fun _ => k1) (qBl (fun k3 => (r76_4 (qCd (sel 5) (fun _ => (r76_5 kr)) (fun k4 => k4) k3))) (r76_3 k2))))
noncomputable def r76_1 (k : KT R) : KT R := fun fr H => opn 6 fr (fun s0 s1 s4 s5 s9 s17 => 
(k [s0, s1, s4, (.int .i64 0), s9, s17] H : R))
noncomputable def r76_0 (k : KT R) : KT R := fun fr H => opn 6 fr (fun s0 s1 s4 s5 s9 s17 => 
(k [s0, s1, (.bool false), s5, s9, s17] H : R))
noncomputable def c76 (C : CallF) (l0 : List AV) (H : AH) (k : AV → AH → R) : R := opn 2 l0 (fun x0 x1 => (qFn (fun kr => (r76_0 (r76_1 (qBl (fun k1 => (qLoop (l76_5 k1 kr))) (r76_6 kr)))))
(fun fr H => k (sel 2 fr) H) [x0, x1, undef, undef, undef, undef] H : R))
/- (*refectory/refectorylaw00.G).field -/
noncomputable def r77_14 (k : KT R) : KT R := fun fr H => opn 12 fr (fun s0 s1 s2 s4 s6 s7 s8 s9 s17 s32 s77 s100 => 
(qLdA 7 s7 H fun v109 =>
qSt 7 s6 v109 H fun _ H =>
k [s0, s1, s2, s4, s6, s7, s8, s9, s17, s32, s77, s100] H : R))
noncomputable def r77_13 (C : CallF) (k : KT R) : KT R := fun fr H => opn 12 fr (fun s0 s1 s2 s4 s6 s7 s8 s9 s17 s32 s77 s100 => 
(qFa 2 s4 fun v102 =>
qFa 0 v102 fun v103 =>
qLd v103 H fun v104 =>
qAdd X 3 s2 (.int .i64 1) fun v106 =>
qRes (C 40 [s0, v104, v106] H) fun v107 H =>
qFa 6 s7 fun v108 =>
qSt 1 v108 v107 H fun _ H =>
k [s0, s1, s2, s4, s6, s7, s8, s9, s17, s32, s77, s100] H : R))
noncomputable def r77_12 (k : KT R) : KT R := fun fr H => opn 12 fr (fun s0 s1 s2 s4 s6 s7 s8 s9 s17 s32 s77 s100 => 
(qNeq X 3 s9 (.int .i64 1) fun v96 =>
qG v96 true (fun k => k s9 H) H fun v98 H =>
qG v96 true (fun k => qNeq X 3 v98 (.int .i64 5) fun v => k v H) H fun v99 H =>
qPick v96 v99 (.bool false) fun v100 =>
k [s0, s1, s2, s4, s6, s7, s8, s9, s17, s32, s77, v100] H : R))
noncomputable def r77_11 (C : CallF) (k : KT R) : KT R := fun fr H => opn 12 fr (fun s0 s1 s2 s4 s6 s7 s8 s9 s17 s32 s77 s100 => 
(qRes (C 75 [s0] H) fun v93 H =>
qFa 5 s7 fun v94 =>
qSt 1 v94 v93 H fun _ H =>
k [s0, s1, s2, s4, s6, s7, s8, s9, s17, s32, s77, s100] H : R))
noncomputable def r77_10 (C : CallF) (k : KT R) : KT R := fun fr H => opn 12 fr (fun s0 s1 s2 s4 s6 s7 s8 s9 s17 s32 s77 s100 => 
(qNc s0 fun v86 =>
qFa 7 v86 fun v87 =>
qLd v87 H fun v88 =>
qRes (C 17 [v88] H) fun v89 H =>
qAdd X 9 (.str [114]) v89 fun v90 =>
qFa 1 s7 fun v91 =>
qSt 1 v91 v90 H fun _ H =>
k [s0, s1, s2, s4, s6, s7, s8, s9, s17, s32, s77, s100] H : R))
noncomputable def r77_9 (k : KT R) : KT R := fun fr H => opn 12 fr (fun s0 s1 s2 s4 s6 s7 s8 s9 s17 s32 s77 s100 => 
(qNc s0 fun v79 =>
qFa 7 v79 fun v80 =>
qLd v80 H fun v81 =>
qAdd X 3 v81 (.int .i64 1) fun v82 =>
qNc s0 fun v83 =>
qFa 7 v83 fun v84 =>
qSt 1 v84 v82 H fun _ H =>
k [s0, s1, s2, s4, s6, s7, s8, s9, s17, s32, s77, s100] H : R))
noncomputable def r77_8 (C : CallF) (k : KT R) : KT R := fun fr H => opn 12 fr (fun s0 s1 s2 s4 s6 s7 s8 s9 s17 s32 s77 s100 => 
(qFa 1 s4 fun v61 =>
qLd v61 H fun v62 =>
qLenL v62 fun v63 =>
qGtr X 3 v63 (.int .i64 0) fun v64 =>
qG v64 false (fun k => k s0 H) H fun v66 H =>
qG v64 false (fun k => qRes (C 39 [v66, (.int .i64 7)] H) k) H fun v67 H =>
qG v64 false (fun k => qEql X 3 v67 (.int .i64 0) fun v => k v H) H fun v68 H =>
qPick v64 (.bool true) v68 fun v69 =>
qG v69 false (fun k => k s9 H) H fun v71 H =>
qG v69 false (fun k => qNeq X 3 v71 (.int .i64 1) fun v => k v H) H fun v72 H =>
qG v69 false (fun k => k v72 H) H fun v73 H =>
qG v73 true (fun k => k s9 H) H fun v74 H =>
qG v73 true (fun k => qNeq X 3 v74 (.int .i64 5) fun v => k v H) H fun v75 H =>
qG v69 false (fun k => qPick v73 v75 (.bool false) fun v => k v H) H fun v76 H =>
qPick v69 (.bool true) v76 fun v77 =>
k [s0, s1, s2, s4, s6, s7, s8, s9, s17, s32, v77, s100] H : R))
noncomputable def r77_7 (C : CallF) (k : KT R) : KT R := fun fr H => opn 12 fr (fun s0 s1 s2 s4 s6 s7 s8 s9 s17 s32 s77 s100 => 
(qNc s0 fun v54 =>
qFa 2 v54 fun v55 =>
qLdA 3 v55 H fun v56 =>
qFa 2 s4 fun v57 =>
qFa 0 v57 fun v58 =>
qLd v58 H fun v59 =>
qRes (C 43 [v56, v59] H) fun v60 H =>
k [s0, s1, s2, s4, s6, s7, s8, v60, s17, s32, s77, s100] H : R))
noncomputable def r77_4 (k : KT R) : KT R := fun fr H => opn 12 fr (fun s0 s1 s2 s4 s6 s7 s8 s9 s17 s32 s77 s100 => 
(qAdd X 3 s8 (.int .i64 1) fun v19 =>
k [s0, s1, s2, s4, s6, s7, v19, s9, s17, s32, s77, s100] H : R))
noncomputable def r77_6 (C : CallF) (k : KT R) : KT R := fun fr H => opn 12 fr (fun s0 s1 s2 s4 s6 s7 s8 s9 s17 s32 s77 s100 => 
(qFa 4 s7 fun v33 =>
qLd v33 H fun v34 =>
qFa 1 s4 fun v35 =>
qLd v35 H fun v36 =>
qIa 7 v36 s8 fun v38 =>
qFa 0 v38 fun v39 =>
qLd v39 H fun v40 =>
qFa 1 s4 fun v42 =>
qLd v42 H fun v43 =>
qIa 7 v43 s8 fun v45 =>
qFa 1 v45 fun v46 =>
qLdA 2 v46 H fun v47 =>
qRes (C 115 [s0, v47, (.int .i64 0)] H) fun v48 H =>
qLd v39 H fun w => qSame v40 w (qLd v35 H fun w => qSame v36 w (qLd v33 H fun w => qSame v34 w (qBld z38 [(0, 1, v40), (1, 4, v48)] fun v49 =>
qRows z38 1 [(0, v49)] fun v50 =>
qApp 5 88 v34 v50 false H fun v51 H =>
qFa 4 s7 fun v52 =>
qSt 1 v52 v51 H fun _ H =>
k [s0, s1, s2, s4, s6, s7, s8, s9, s17, s32, s77, s100] H))) : R))
noncomputable def r77_5 (C : CallF) (k : KT R) : KT R := fun fr H => opn 12 fr (fun s0 s1 s2 s4 s6 s7 s8 s9 s17 s32 s77 s100 => 
(qFa 1 s4 fun v20 =>
qLd v20 H fun v21 =>
qIa 7 v21 s8 fun v23 =>
qFa 1 v23 fun v24 =>
qLdA 2 v24 H fun v25 =>
qRes (C 114 [v25] H) fun v26 H =>
qEql X 5 v26 (.int .u8 33) fun v27 =>
qG v27 false (fun k => k s0 H) H fun v29 H =>
qG v27 false (fun k => qRes (C 39 [v29, (.int .i64 2)] H) k) H fun v30 H =>
qG v27 false (fun k => qEql X 3 v30 (.int .i64 0) fun v => k v H) H fun v31 H =>
qPick v27 (.bool true) v31 fun v32 =>
k [s0, s1, s2, s4, s6, s7, s8, s9, s17, v32, s77, s100] H : R))
noncomputable def r77_3 (k : KT R) : KT R := fun fr H => opn 12 fr (fun s0 s1 s2 s4 s6 s7 s8 s9 s17 s32 s77 s100 => 
(qFa 1 s4 fun v14 =>
qLd v14 H fun v15 =>
qLenL v15 fun v16 =>
qLss X 3 s8 v16 fun v17 =>
k [s0, s1, s2, s4, s6, s7, s8, s9, v17, s32, s77, s100] H : R))
noncomputable def l77_7 (C : CallF) (k3 : KT R) : KT R → KT R := fun k4 => (r77_3 (qCd (sel 8) (fun k7 => k7) (fun _ => k3) (qBl (fun k5 => (r77_5 C (qCd (sel 9) (fun k6 => (r77_6 C k6)) (fun k6 => k6) k5))) (r77_4 k4))))
noncomputable def r77_2 (k : KT R) : KT R := fun fr H => opn 12 fr (fun s0 s1 s2 s4 s6 s7 s8 s9 s17 s32 s77 s100 => 
(k [s0, s1, s2, s4, s6, s7, (.int .i64 0), s9, s17, s32, s77, s100] H : R))
noncomputable def r77_1 (k : KT R) : KT R := fun fr H => opn 12 fr (fun s0 s1 s2 s4 s6 s7 s8 s9 s17 s32 s77 s100 => 
(qFa 0 s4 fun v10 =>
qLd v10 H fun v11 =>
qBld z36 [(0, 1, (.int .i64 1)), (2, 1, v11)] fun v12 =>
qNew (.cells z36) .ptr H fun v7 H =>
qSt 7 v7 v12 H fun _ H =>
k [s0, s1, s2, s4, s6, v7, s8, s9, s17, s32, s77, s100] H : R))
noncomputable def r77_0 (k : KT R) : KT R := fun fr H => opn 12 fr (fun s0 s1 s2 s4 s6 s7 s8 s9 s17 s32 s77 s100 => 
(qBox s1 H fun v4 H =>
qNew (.cells z36) .ptr H fun v6 H =>
k [s0, s1, s2, v4, v6, s7, s8, s9, s17, s32, s77, s100] H : R))
noncomputable def c77 (C : CallF) (l0 : List AV) (H : AH) (k : AV → AH → R) : R := opn 3 l0 (fun x0 x1 x2 => (qFn (fun kr => (r77_0 (r77_1 (r77_2 (qBl (fun k3 => (qLoop (l77_7 C k3))) (r77_7 C (r77_8 C (qCd (sel 10) (fun k2 => (r77_9 (r77_10 C k2))) (fun k2 => k2) (r77_11 C (r77_12 (qCd (sel 11) (fun k1 => (r77_13 C k1)) (fun k1 => k1) (r77_14 kr))))))))))))
(fun fr H => qPtr (sel 4 fr) (qLdA 7 (sel 4 fr) H fun w0 => k w0 H)) [x0, x1, x2, undef, undef, undef, undef, undef, undef, undef, undef, undef] H : R))
/- refectory/refectoryref09.Builtin -/
noncomputable def r78_1 (k : KT R) : KT R := fun fr H => opn 2 fr (fun s0 s2 => 
(qEql X 9 s0 (.str [73,110,116]) fun v4 =>
qG v4 false (fun k => k s0 H) H fun v6 H =>
qG v4 false (fun k => qEql X 9 v6 (.str [70,108,111,97,116]) fun v => k v H) H fun v7 H =>
qPick v4 (.bool true) v7 fun v8 =>
qG v8 false (fun k => k s0 H) H fun v10 H =>
qG v8 false (fun k => qEql X 9 v10 (.str [83,116,114,105,110,103]) fun v => k v H) H fun v11 H =>
qPick v8 (.bool true) v11 fun v12 =>
qG v12 false (fun k => k s0 H) H fun v14 H =>
qG v12 false (fun k => qEql X 9 v14 (.str [66,111,111,108,101,97,110]) fun v => k v H) H fun v15 H =>
qPick v12 (.bool true) v15 fun v16 =>
qG v16 false (fun k => k s0 H) H fun v18 H =>
qG v16 false (fun k => qEql X 9 v18 (.str [73,68]) fun v => k v H) H fun v19 H =>
qPick v16 (.bool true) v19 fun v20 =>
k [s0, v20] H : R))
noncomputable def r78_0 (k : KT R) : KT R := fun fr H => opn 2 fr (fun s0 s2 => 
(k [s0, (.bool false)] H : R))
noncomputable def c78 (C : CallF) (l0 : List AV) (H : AH) (k : AV → AH → R) : R := opn 1 l0 (fun x0 => (qFn (fun kr => (r78_0 (r78_1 kr)))
(fun fr H => k (sel 1 fr) H) [x0, undef] H : R))
/- (*refectory/merge.search).all -/
noncomputable def r79_11 (k : KT R) : KT R := fun fr H => opn 13 fr (fun s0 s1 s2 s6 s7 s8 s10 s11 s12 s14 s15 s16 s43 => 
(k [s0, s1, s2, (.bool true), s7, s8, s10, s11, s12, s14, s15, s16, s43] H : R))
noncomputable def r79_10 (k : KT R) : KT R := fun fr H => opn 13 fr (fun s0 s1 s2 s6 s7 s8 s10 s11 s12 s14 s15 s16 s43 => 
(qAdd X 3 s11 (.int .i64 1) fun v45 =>
k [s0, s1, s2, s6, s7, s8, s10, v45, s12, s14, s15, s16, s43] H : R))
noncomputable def r79_9 (k : KT R) : KT R := fun fr H => opn 13 fr (fun s0 s1 s2 s6 s7 s8 s10 s11 s12 s14 s15 s16 s43 => 
(qAdd X 3 s15 (.int .i64 1) fun v44 =>
k [s0, s1, s2, s6, s7, s8, s10, s11, s12, s14, v44, s16, s43] H : R))
noncomputable def r79_8 (k : KT R) : KT R := fun fr H => opn 13 fr (fun s0 s1 s2 s6 s7 s8 s10 s11 s12 s14 s15 s16 s43 => 
(k [s0, s1, s2, (.bool false), s7, s8, s10, s11, s12, s14, s15, s16, s43] H : R))
noncomputable def r79_7 (C : CallF) (k : KT R) : KT R := fun fr H => opn 13 fr (fun s0 s1 s2 s6 s7 s8 s10 s11 s12 s14 s15 s16 s43 => 
(qIa 2 s1 s7 fun v20 =>
qLdA 2 v20 H fun v21 =>
qIa 2 s1 s8 fun v25 =>
qLdA 2 v25 H fun v26 =>
qRes (C 116 [v21] H) fun v22 H =>
qLdA 2 v25 H fun w => qSame v26 w (qRes (C 116 [v26] H) fun v27 H =>
qEql X 9 v22 v27 fun v28 =>
qG v28 true (fun k => k s0 H) H fun v30 H =>
qG v28 true (fun k => k s1 H) H fun v31 H =>
qG v28 true (fun k => k s8 H) H fun v32 H =>
qG v28 true (fun k => qIa 2 v31 v32 fun v => k v H) H fun v33 H =>
qG v28 true (fun k => qLdA 2 v33 H fun v => k v H) H fun v34 H =>
qG v28 true (fun k => k s1 H) H fun v35 H =>
qG v28 true (fun k => k s7 H) H fun v36 H =>
qG v28 true (fun k => qIa 2 v35 v36 fun v => k v H) H fun v37 H =>
qG v28 true (fun k => qLdA 2 v37 H fun v => k v H) H fun v38 H =>
qG v28 true (fun k => k s2 H) H fun v39 H =>
qG v28 true (fun k => qBld z198 [(0, 2, v34), (2, 2, v38), (4, 1, v39)] fun v => k v H) H fun v40 H =>
qG v28 true (fun k => qRes (C 117 [v30, v40] H) k) H fun v41 H =>
qG v28 true (fun k => qNot v41 fun v => k v H) H fun v42 H =>
qPick v28 v42 (.bool false) fun v43 =>
k [s0, s1, s2, s6, s7, s8, s10, s11, s12, s14, s15, s16, v43] H) : R))
noncomputable def r79_6 (k : KT R) : KT R := fun fr H => opn 13 fr (fun s0 s1 s2 s6 s7 s8 s10 s11 s12 s14 s15 s16 s43 => 
(k [s0, s1, s2, s6, s7, s15, s10, s11, s12, s14, s15, s16, s43] H : R))
noncomputable def r79_5 (k : KT R) : KT R := fun fr H => opn 13 fr (fun s0 s1 s2 s6 s7 s8 s10 s11 s12 s14 s15 s16 s43 => 
(qLss X 3 s15 s14 fun v16 =>
k [s0, s1, s2, s6, s7, s8, s10, s11, s12, s14, s15, v16, s43] H : R))
noncomputable def l79_8 (C : CallF) (k4 : KT R) (kr : KT R) : KT R → KT R := fun k5 => (r79_5 (qCd (sel 11) (fun k8 => k8) (fun _ => k4) (qBl (fun k6 => (r79_6 (r79_7 C (qCd (sel 12) (fun _ => (r79_8 kr)) (fun k7 => k7) k6)))) (r79_9 k5))))
noncomputable def r79_4 (k : KT R) : KT R := fun fr H => opn 13 fr (fun s0 s1 s2 s6 s7 s8 s10 s11 s12 s14 s15 s16 s43 => 
(k [s0, s1, s2, s6, s7, s8, s10, s11, s12, s7, (.int .i64 0), s16, s43] H : R))
noncomputable def r79_3 (k : KT R) : KT R := fun fr H => opn 13 fr (fun s0 s1 s2 s6 s7 s8 s10 s11 s12 s14 s15 s16 s43 => 
(k [s0, s1, s2, s6, s11, s8, s10, s11, s12, s14, s15, s16, s43] H : R))
noncomputable def r79_2 (k : KT R) : KT R := fun fr H => opn 13 fr (fun s0 s1 s2 s6 s7 s8 s10 s11 s12 s14 s15 s16 s43 => 
(qLss X 3 s11 s10 fun v12 =>
k [s0, s1, s2, s6, s7, s8, s10, s11, v12, s14, s15, s16, s43] H : R))
noncomputable def l79_9 (C : CallF) (k1 : KT R) (kr : KT R) : KT R → KT R := fun k2 => (r79_2 (qCd (sel 8) (fun k9 => k9) (fun _ => k1) (qBl (fun k3 => (r79_3 (r79_4 (qBl (fun k4 => (qLoop (l79_8 C k4 kr))) k3)))) (r79_10 k2))))
noncomputable def r79_1 (k : KT R) : KT R := fun fr H => opn 13 fr (fun s0 s1 s2 s6 s7 s8 s10 s11 s12 s14 s15 s16 s43 => 
(qLenL s1 fun v10 =>
k [s0, s1, s2, s6, s7, s8, v10, (.int .i64 0), s12, s14, s15, s16, s43] H : R))
noncomputable def r79_0 (k : KT R) : KT R := fun fr H => opn 13 fr (fun s0 s1 s2 s6 s7 s8 s10 s11 s12 s14 s15 s16 s43 => 
(k [s0, s1, s2, (.bool false), s7, s8, s10, s11, s12, s14, s15, s16, s43] H : R))
noncomputable def c79 (C : CallF) (l0 : List AV) (H : AH) (k : AV → AH → R) : R := opn 3 l0 (fun x0 x1 x2 => (qFn (fun kr => (r79_0 (r79_1 (qBl (fun k1 => (qLoop (l79_9 C k1 kr))) (r79_11 kr)))))
(fun fr H => k (sel 3 fr) H) [x0, x1, x2, undef, undef, undef, undef, undef, undef, undef, undef, undef, undef] H : R))
/- (*refectory/merge.search).fields -/
noncomputable def r80_17 (k : KT R) : KT R := fun fr H => opn 16 fr (fun s0 s1 s2 s3 s8 s9 s10 s11 s12 s15 s16 s17 s22 s34 s75 s101 => 
(k [s0, s1, s2, s3, s9, s9, s10, s11, s12, s15, s16, s17, s22, s34, s75, s101] H : R))
noncomputable def r80_16 (k : KT R) : KT R := fun fr H => opn 16 fr (fun s0 s1 s2 s3 s8 s9 s10 s11 s12 s15 s16 s17 s22 s34 s75 s101 => 
(qAdd X 3 s16 (.int .i64 1) fun v117 =>
k [s0, s1, s2, s3, s8, s9, s10, s11, s12, s15, v117, s17, s22, s34, s75, s101] H : R))
noncomputable def r80_7 (k : KT R) : KT R := fun fr H => opn 16 fr (fun s0 s1 s2 s3 s8 s9 s10 s11 s12 s15 s16 s17 s22 s34 s75 s101 => 
(qBld z161 [(0, 1, s11), (1, 1, s2)] fun v31 =>
qRows z161 1 [(0, v31)] fun v32 =>
qApp 2 24 s9 v32 false H fun v33 H =>
k [s0, s1, s2, s3, s8, v33, s10, s11, s12, s15, s16, s17, s22, s34, s75, s101] H : R))
noncomputable def r80_11 (C : CallF) (k : KT R) : KT R := fun fr H => opn 16 fr (fun s0 s1 s2 s3 s8 s9 s10 s11 s12 s15 s16 s17 s22 s34 s75 s101 => 
(qFa 3 s12 fun v68 =>
qLd v68 H fun v69 =>
qFa 1 s12 fun v70 =>
qLd v70 H fun v71 =>
qRes (C 80 [s0, v69, v71, s3] H) fun v73 H =>
qApp 2 24 s9 v73 false H fun v74 H =>
k [s0, s1, s2, s3, s8, v74, s10, s11, s12, s15, s16, s17, s22, s34, s75, s101] H : R))
noncomputable def r80_10 (C : CallF) (k : KT R) : KT R := fun fr H => opn 16 fr (fun s0 s1 s2 s3 s8 s9 s10 s11 s12 s15 s16 s17 s22 s34 s75 s101 => 
(qNc s0 fun v56 =>
qFa 3 v56 fun v57 =>
qLdA 2 v57 H fun v58 =>
qNc s11 fun v60 =>
qFa 2 v60 fun v61 =>
qLd v61 H fun v62 =>
qNew (.cells z67) .ptr H fun v12 H =>
qRes (C 37 [v58, v62] H) fun v63 H =>
qKeep z67 v12 H (qExt v63 0 fun v64 =>
qExt v63 1 fun v65 =>
qSt 4 v12 v64 H fun _ H =>
k [s0, s1, s2, s3, s8, s9, s10, s11, v12, s15, s16, s17, s22, s34, s75, s101] H) : R))
noncomputable def r80_9 (k : KT R) : KT R := fun fr H => opn 16 fr (fun s0 s1 s2 s3 s8 s9 s10 s11 s12 s15 s16 s17 s22 s34 s75 s101 => 
(qNc s11 fun v51 =>
qFa 2 v51 fun v52 =>
qLd v52 H fun v53 =>
qMset X 84 s3 v53 (.bool true) H fun _ H =>
k [s0, s1, s2, s3, s8, s9, s10, s11, s12, s15, s16, s17, s22, s34, s75, s101] H : R))
noncomputable def r80_13 (C : CallF) (k : KT R) : KT R := fun fr H => opn 16 fr (fun s0 s1 s2 s3 s8 s9 s10 s11 s12 s15 s16 s17 s22 s34 s75 s101 => 
(qNc s11 fun v91 =>
qFa 6 v91 fun v92 =>
qLd v92 H fun v93 =>
qNc s11 fun v95 =>
qFa 3 v95 fun v96 =>
qLd v96 H fun v97 =>
qRes (C 80 [s0, v93, v97, s3] H) fun v99 H =>
qApp 2 24 s9 v99 false H fun v100 H =>
k [s0, s1, s2, s3, s8, v100, s10, s11, s12, s15, s16, s17, s22, s34, s75, s101] H : R))
noncomputable def r80_15 (C : CallF) (k : KT R) : KT R := fun fr H => opn 16 fr (fun s0 s1 s2 s3 s8 s9 s10 s11 s12 s15 s16 s17 s22 s34 s75 s101 => 
(qNc s11 fun v110 =>
qFa 6 v110 fun v111 =>
qLd v111 H fun v112 =>
qRes (C 80 [s0, v112, s2, s3] H) fun v115 H =>
qApp 2 24 s9 v115 false H fun v116 H =>
k [s0, s1, s2, s3, s8, v116, s10, s11, s12, s15, s16, s17, s22, s34, s75, s101] H : R))
noncomputable def r80_14 (k : KT R) : KT R := fun fr H => opn 16 fr (fun s0 s1 s2 s3 s8 s9 s10 s11 s12 s15 s16 s17 s22 s34 s75 s101 => 
(qNc s11 fun v103 =>
qFa 0 v103 fun v104 =>
qLd v104 H fun v105 =>
qEql X 3 v105 (.int .i64 3) fun v106 =>
k [s0, s1, s2, s3, s8, s9, s10, s11, s12, s15, s16, s17, s22, s34, s75, v106] H : R))
noncomputable def r80_12 (k : KT R) : KT R := fun fr H => opn 16 fr (fun s0 s1 s2 s3 s8 s9 s10 s11 s12 s15 s16 s17 s22 s34 s75 s101 => 
(qNc s11 fun v77 =>
qFa 0 v77 fun v78 =>
qLd v78 H fun v79 =>
qEql X 3 v79 (.int .i64 3) fun v80 =>
qG v80 true (fun k => k s11 H) H fun v82 H =>
qG v80 true (fun k => qNc v82 fun v => k v H) H fun v83 H =>
qG v80 true (fun k => qFa 3 v83 fun v => k v H) H fun v84 H =>
qG v80 true (fun k => qLd v84 H fun v => k v H) H fun v85 H =>
qG v80 true (fun k => qNeq X 9 v85 (.str []) fun v => k v H) H fun v86 H =>
qPick v80 v86 (.bool false) fun v87 =>
k [s0, s1, s2, s3, s8, s9, s10, s11, s12, s15, s16, s17, s22, s34, v87, s101] H : R))
noncomputable def r80_8 (k : KT R) : KT R := fun fr H => opn 16 fr (fun s0 s1 s2 s3 s8 s9 s10 s11 s12 s15 s16 s17 s22 s34 s75 s101 => 
(qNc s11 fun v36 =>
qFa 0 v36 fun v37 =>
qLd v37 H fun v38 =>
qEql X 3 v38 (.int .i64 2) fun v39 =>
qG v39 true (fun k => k s3 H) H fun v41 H =>
qG v39 true (fun k => k s11 H) H fun v42 H =>
qG v39 true (fun k => qNc v42 fun v => k v H) H fun v43 H =>
qG v39 true (fun k => qFa 2 v43 fun v => k v H) H fun v44 H =>
qG v39 true (fun k => qLd v44 H fun v => k v H) H fun v45 H =>
qG v39 true (fun k => qO (lookup X 84 v41 v45 false H) fun v => k v H) H fun v46 H =>
qG v39 true (fun k => qNot v46 fun v => k v H) H fun v47 H =>
qPick v39 v47 (.bool false) fun v48 =>
k [s0, s1, s2, s3, s8, s9, s10, s11, s12, s15, s16, s17, s22, v48, s75, s101] H : R))
noncomputable def r80_6 (k : KT R) : KT R := fun fr H => opn 16 fr (fun s0 s1 s2 s3 s8 s9 s10 s11 s12 s15 s16 s17 s22 s34 s75 s101 => 
(qNc s11 fun v24 =>
qFa 0 v24 fun v25 =>
qLd v25 H fun v26 =>
qEql X 3 v26 (.int .i64 1) fun v27 =>
k [s0, s1, s2, s3, s8, s9, s10, s11, s12, s15, s16, s17, v27, s34, s75, s101] H : R))
noncomputable def r80_5 (k : KT R) : KT R := fun fr H => opn 16 fr (fun s0 s1 s2 s3 s8 s9 s10 s11 s12 s15 s16 s17 s22 s34 s75 s101 => 
(qIa 7 s1 s10 fun v21 =>
k [s0, s1, s2, s3, s8, s9, s10, v21, s12, s15, s16, s17, s22, s34, s75, s101] H : R))
noncomputable def r80_4 (k : KT R) : KT R := fun fr H => opn 16 fr (fun s0 s1 s2 s3 s8 s9 s10 s11 s12 s15 s16 s17 s22 s34 s75 s101 => 
(k [s0, s1, s2, s3, s8, s9, s16, s11, s12, s15, s16, s17, s22, s34, s75, s101] H : R))
noncomputable def r80_3 (k : KT R) : KT R := fun fr H => opn 16 fr (fun s0 s1 s2 s3 s8 s9 s10 s11 s12 s15 s16 s17 s22 s34 s75 s101 => 
(qLss X 3 s16 s15 fun v17 =>
k [s0, s1, s2, s3, s8, s9, s10, s11, s12, s15, s16, v17, s22, s34, s75, s101] H : R))
noncomputable def l80_9 (C : CallF) (k1 : KT R) : KT R → KT R := fun k2 => (r80_3 (qCd (sel 11) (fun k9 => k9) (fun _ => k1) (qBl (fun k3 => (r80_4 (r80_5 (qBl (fun k4 => (r80_6 (qCd (sel 12) (fun k5 => (r80_7 k5)) (fun k5 => (r80_8 (qCd (sel 13) (fun k6 => (r80_9 (r80_10 C (r80_11 C k6)))) (fun k6 => (r80_12 (qCd (sel 14) (fun k7 => (r80_13 C k7)) (fun k7 => (r80_14 (qCd (sel 15) (fun k8 => (r80_15 C k8)) (fun k8 => k8) k7))) k6))) k5))) k4))) k3)))) (r80_16 k2))))
noncomputable def r80_2 (k : KT R) : KT R := fun fr H => opn 16 fr (fun s0 s1 s2 s3 s8 s9 s10 s11 s12 s15 s16 s17 s22 s34 s75 s101 => 
(qLenL s1 fun v15 =>
k [s0, s1, s2, s3, s8, s9, s10, s11, s12, v15, (.int .i64 0), s17, s22, s34, s75, s101] H : R))
noncomputable def r80_1 (k : KT R) : KT R := fun fr H => opn 16 fr (fun s0 s1 s2 s3 s8 s9 s10 s11 s12 s15 s16 s17 s22 s34 s75 s101 => 
(k [s0, s1, s2, s3, s8, (.sl [] .nil), s10, s11, s12, s15, s16, s17, s22, s34, s75, s101] H : R))
noncomputable def r80_0 (k : KT R) : KT R := fun fr H => opn 16 fr (fun s0 s1 s2 s3 s8 s9 s10 s11 s12 s15 s16 s17 s22 s34 s75 s101 => 
(k [s0, s1, s2, s3, (.sl [] .nil), s9, s10, s11, s12, s15, s16, s17, s22, s34, s75, s101] H : R))
noncomputable def c80 (C : CallF) (l0 : List AV) (H : AH) (k : AV → AH → R) : R := opn 4 l0 (fun x0 x1 x2 x3 => (qFn (fun kr => (r80_0 (r80_1 (r80_2 (qBl (fun k1 => (qLoop (l80_9 C k1))) (r80_17 kr))))))
(fun fr H => k (sel 4 fr) H) [x0, x1, x2, x3, undef, undef, undef, undef, undef, undef, undef, undef, undef, undef, undef, undef] H : R))
/- (*refectory/merge.search).typed -/
noncomputable def r81_2 (k : KT R) : KT R := fun fr H => opn 5 fr (fun s0 s1 s3 s4 s5 => 
(qFa 2 s5 fun v22 =>
qLdA 2 v22 H fun v23 =>
qSt 2 s4 v23 H fun _ H =>
k [s0, s1, s3, s4, s5] H : R))
noncomputable def r81_1 (C : CallF) (k : KT R) : KT R := fun fr H => opn 5 fr (fun s0 s1 s3 s4 s5 => 
(qNc s0 fun v9 =>
qFa 0 v9 fun v10 =>
qLdA 3 v10 H fun v11 =>
qFa 1 s3 fun v12 =>
qLd v12 H fun v13 =>
qFa 0 s3 fun v14 =>
qLd v14 H fun v15 =>
qNc v15 fun v16 =>
qFa 2 v16 fun v17 =>
qLd v17 H fun v18 =>
qNew (.cells z117) .ptr H fun v5 H =>
qRes (C 111 [v11, v13, v18] H) fun v19 H =>
qKeep z117 v5 H (qExt v19 0 fun v20 =>
qExt v19 1 fun v21 =>
qSt 5 v5 v20 H fun _ H =>
k [s0, s1, s3, s4, v5] H) : R))
noncomputable def r81_0 (k : KT R) : KT R := fun fr H => opn 5 fr (fun s0 s1 s3 s4 s5 => 
(qBox s1 H fun v3 H =>
qNew (.cells z115) .ptr H fun v4 H =>
k [s0, s1, v3, v4, s5] H : R))
noncomputable def c81 (C : CallF) (l0 : List AV) (H : AH) (k : AV → AH → R) : R := opn 2 l0 (fun x0 x1 => (qFn (fun kr => (r81_0 (r81_1 C (r81_2 kr))))
(fun fr H => qPtr (sel 3 fr) (qLdA 2 (sel 3 fr) H fun w0 => k w0 H)) [x0, x1, undef, undef, undef] H : R))
/- (*refectory/cost.count).frag -/
noncomputable def r82_7 (k : KT R) : KT R := fun fr H => opn 7 fr (fun s0 s1 s4 s5 s6 s7 s18 => 
(qNc s0 fun v46 =>
qFa 5 v46 fun v47 =>
qLd v47 H fun v48 =>
qO (lookup X 52 v48 s1 false H) fun v50 =>
k [s0, s1, v50, s5, s6, s7, s18] H : R))
noncomputable def r82_6 (C : CallF) (k : KT R) : KT R := fun fr H => opn 7 fr (fun s0 s1 s4 s5 s6 s7 s18 => 
(qNc s0 fun v35 =>
qFa 5 v35 fun v36 =>
qLd v36 H fun v37 =>
qFa 3 s7 fun v40 =>
qLd v40 H fun v41 =>
qFa 1 s7 fun v42 =>
qLd v42 H fun v43 =>
qRes (C 45 [s0, v41, v43] H) fun v44 H =>
qLd v36 H fun w => qSame v37 w (qMset X 52 v37 s1 v44 H fun _ H =>
k [s0, s1, s4, s5, s6, s7, s18] H) : R))
noncomputable def r82_5 (C : CallF) (k : KT R) : KT R := fun fr H => opn 7 fr (fun s0 s1 s4 s5 s6 s7 s18 => 
(qNc s0 fun v27 =>
qFa 3 v27 fun v28 =>
qLdA 2 v28 H fun v29 =>
qRes (C 37 [v29, s1] H) fun v31 H =>
qExt v31 0 fun v32 =>
qExt v31 1 fun v33 =>
qNew (.cells z67) .ptr H fun v7 H =>
qSt 4 v7 v32 H fun _ H =>
k [s0, s1, s4, s5, s6, v7, s18] H : R))
noncomputable def r82_4 (k : KT R) : KT R := fun fr H => opn 7 fr (fun s0 s1 s4 s5 s6 s7 s18 => 
(qNc s0 fun v21 =>
qFa 5 v21 fun v22 =>
qLd v22 H fun v23 =>
qMset X 52 v23 s1 (.int .i64 0) H fun _ H =>
k [s0, s1, s4, s5, s6, s7, s18] H : R))
noncomputable def r82_3 (k : KT R) : KT R := fun fr H => opn 7 fr (fun s0 s1 s4 s5 s6 s7 s18 => 
(k [s0, s1, s5, s5, s6, s7, s18] H : R))
noncomputable def r82_2 (k : KT R) : KT R := fun fr H => opn 7 fr (fun s0 s1 s4 s5 s6 s7 s18 => 
(k [s0, s1, s4, s5, s6, s7, s6] H : R))
noncomputable def r82_1 (k : KT R) : KT R := fun fr H => opn 7 fr (fun s0 s1 s4 s5 s6 s7 s18 => 
(qNc s0 fun v11 =>
qFa 5 v11 fun v12 =>
qLd v12 H fun v13 =>
qO (lookup X 52 v13 s1 true H) fun v15 =>
qExt v15 0 fun v16 =>
qExt v15 1 fun v17 =>
k [s0, s1, s4, v16, v17, s7, s18] H : R))
noncomputable def r82_0 (k : KT R) : KT R := fun fr H => opn 7 fr (fun s0 s1 s4 s5 s6 s7 s18 => 
(k [s0, s1, (.int .i64 0), s5, s6, s7, s18] H : R))
noncomputable def c82 (C : CallF) (l0 : List AV) (H : AH) (k : AV → AH → R) : R := opn 2 l0 (fun x0 x1 => (qFn (fun kr => (r82_0 (r82_1 (r82_2 (qCd (sel 6) (fun _ => (r82_3 kr)) (fun k1 => k1) (r82_4 (r82_5 C (r82_6 C (r82_7 kr)))))))))
(fun fr H => k (sel 2 fr) H) [x0, x1, undef, undef, undef, undef, undef] H : R))
/- (*refectory/cost.count).field -/
noncomputable def r83_10 (C : CallF) (k : KT R) : KT R := fun fr H => opn 13 fr (fun s0 s1 s2 s4 s6 s7 s8 s9 s10 s22 s37 s38 s39 => 
(qRes (C 84 [s9, s10, (.int .i64 1099511627776)] H) fun v45 H =>
k [s0, s1, s2, s4, v45, s7, s8, s9, s10, s22, s37, s38, s39] H : R))
noncomputable def r83_9 (k : KT R) : KT R := fun fr H => opn 13 fr (fun s0 s1 s2 s4 s6 s7 s8 s9 s10 s22 s37 s38 s39 => 
(qAdd X 3 s38 (.int .i64 1) fun v42 =>
k [s0, s1, s2, s4, s6, s7, s8, s9, s10, s22, s37, v42, s39] H : R))
noncomputable def r83_8 (C : CallF) (k : KT R) : KT R := fun fr H => opn 13 fr (fun s0 s1 s2 s4 s6 s7 s8 s9 s10 s22 s37 s38 s39 => 
(qRes (C 119 [s10, (.int .i64 3), (.int .i64 1099511627776)] H) fun v41 H =>
k [s0, s1, s2, s4, s6, s7, s8, s9, v41, s22, s37, s38, s39] H : R))
noncomputable def r83_7 (k : KT R) : KT R := fun fr H => opn 13 fr (fun s0 s1 s2 s4 s6 s7 s8 s9 s10 s22 s37 s38 s39 => 
(qLss X 3 s38 s37 fun v39 =>
k [s0, s1, s2, s4, s6, s7, s8, s9, s10, s22, s37, s38, v39] H : R))
noncomputable def l83_4 (C : CallF) (k1 : KT R) : KT R → KT R := fun k2 => (r83_7 (qCd (sel 12) (fun k4 => k4) (fun _ => k1) (qBl (fun k3 => (r83_8 C k3)) (r83_9 k2))))
noncomputable def r83_6 (C : CallF) (k : KT R) : KT R := fun fr H => opn 13 fr (fun s0 s1 s2 s4 s6 s7 s8 s9 s10 s22 s37 s38 s39 => 
(qFa 2 s7 fun v34 =>
qFa 1 v34 fun v35 =>
qLd v35 H fun v36 =>
qRes (C 118 [v36, (.str [93])] H) fun v37 H =>
k [s0, s1, s2, s4, s6, s7, s8, s9, s10, s22, v37, (.int .i64 0), s39] H : R))
noncomputable def r83_5 (C : CallF) (k : KT R) : KT R := fun fr H => opn 13 fr (fun s0 s1 s2 s4 s6 s7 s8 s9 s10 s22 s37 s38 s39 => 
(qFa 6 s4 fun v28 =>
qLd v28 H fun v29 =>
qFa 2 s7 fun v30 =>
qFa 0 v30 fun v31 =>
qLd v31 H fun v32 =>
qRes (C 45 [s0, v29, v32] H) fun v33 H =>
k [s0, s1, s2, s4, s6, s7, s8, s9, v33, s22, s37, s38, s39] H : R))
noncomputable def r83_4 (k : KT R) : KT R := fun fr H => opn 13 fr (fun s0 s1 s2 s4 s6 s7 s8 s9 s10 s22 s37 s38 s39 => 
(qFa 4 s7 fun v23 =>
qLd v23 H fun v24 =>
qO (foldO min2 v24 [(.int .i64 1099511627776)]) fun v25 =>
qO (foldO max2 (.int .i64 0) [v25]) fun v26 =>
k [s0, s1, s2, s4, s6, s7, s8, v26, s10, s22, s37, s38, s39] H : R))
noncomputable def r83_3 (k : KT R) : KT R := fun fr H => opn 13 fr (fun s0 s1 s2 s4 s6 s7 s8 s9 s10 s22 s37 s38 s39 => 
(k [s0, s1, s2, s4, s6, s7, s8, s9, s10, s8, s37, s38, s39] H : R))
noncomputable def r83_2 (k : KT R) : KT R := fun fr H => opn 13 fr (fun s0 s1 s2 s4 s6 s7 s8 s9 s10 s22 s37 s38 s39 => 
(k [s0, s1, s2, s4, s6, s7, s8, (.int .i64 1), s10, s22, s37, s38, s39] H : R))
noncomputable def r83_1 (C : CallF) (k : KT R) : KT R := fun fr H => opn 13 fr (fun s0 s1 s2 s4 s6 s7 s8 s9 s10 s22 s37 s38 s39 => 
(qNc s0 fun v13 =>
qFa 0 v13 fun v14 =>
qLdA 3 v14 H fun v15 =>
qFa 2 s4 fun v17 =>
qLd v17 H fun v18 =>
qNew (.cells z117) .ptr H fun v7 H =>
qRes (C 111 [v15, s2, v18] H) fun v19 H =>
qKeep z117 v7 H (qExt v19 0 fun v20 =>
qExt v19 1 fun v21 =>
qSt 5 v7 v20 H fun _ H =>
k [s0, s1, s2, s4, s6, v7, v21, s9, s10, s22, s37, s38, s39] H) : R))
noncomputable def r83_0 (k : KT R) : KT R := fun fr H => opn 13 fr (fun s0 s1 s2 s4 s6 s7 s8 s9 s10 s22 s37 s38 s39 => 
(qBox s1 H fun v4 H =>
k [s0, s1, s2, v4, (.int .i64 0), s7, s8, s9, s10, s22, s37, s38, s39] H : R))
noncomputable def c83 (C : CallF) (l0 : List AV) (H : AH) (k : AV → AH → R) : R := opn 3 l0 (fun x0 x1 x2 => (qFn (fun kr => (r83_0 (r83_1 C (r83_2 (r83_3 (qCd (sel 9) (fun k5 => (r83_4 k5)) (fun k5 => k5) (r83_5 C (r83_6 C (qBl (fun k1 => (qLoop (l83_4 C k1))) (r83_10 C kr))))))))))
(fun fr H => k (sel 4 fr) H) [x0, x1, x2, undef, undef, undef, undef, undef, undef, undef, undef, undef, undef] H : R))
/- refectory/cost.add[int] -/
noncomputable def r84_3 (k : KT R) : KT R := fun fr H => opn 5 fr (fun s0 s1 s2 s6 s13 => 
(qAdd X 3 s0 s1 fun v17 =>
k [s0, s1, s2, v17, s13] H : R))
noncomputable def r84_2 (k : KT R) : KT R := fun fr H => opn 5 fr (fun s0 s1 s2 s6 s13 => 
(k [s0, s1, s2, s2, s13] H : R))
noncomputable def r84_1 (k : KT R) : KT R := fun fr H => opn 5 fr (fun s0 s1 s2 s6 s13 => 
(qO (foldO min2 s1 [s2]) fun v11 =>
qSub X 3 s2 v11 fun v12 =>
qGeq X 3 s0 v12 fun v13 =>
k [s0, s1, s2, s6, v13] H : R))
noncomputable def r84_0 (k : KT R) : KT R := fun fr H => opn 5 fr (fun s0 s1 s2 s6 s13 => 
(k [s0, s1, s2, (.int .i64 0), s13] H : R))
noncomputable def c84 (C : CallF) (l0 : List AV) (H : AH) (k : AV → AH → R) : R := opn 3 l0 (fun x0 x1 x2 => (qFn (fun kr => (r84_0 (r84_1 (qCd (sel 4) (fun _ => (r84_2 kr)) (fun k1 => k1) (r84_3 kr)))))
(fun fr H => k (sel 3 fr) H) [x0, x1, x2, undef, undef] H : R))
/- (*refectory/refectoryref05.P).Must -/
noncomputable def r85_1 (C : CallF) (k : KT R) : KT R := fun fr H => opn 3 fr (fun s0 s1 s7 => 
(qNc s0 fun v10 =>
qFa 1 v10 fun v11 =>
qLd v11 H fun v12 =>
qRes (C 100 [s0, (.int .i64 2), v12] H) fun v13 H =>
k [s0, s1, s7] H : R))
noncomputable def r85_0 (C : CallF) (k : KT R) : KT R := fun fr H => opn 3 fr (fun s0 s1 s7 => 
(qRes (C 48 [s0, (.int .i64 5), s1] H) fun v6 H =>
qNot v6 fun v7 =>
k [s0, s1, v7] H : R))
noncomputable def c85 (C : CallF) (l0 : List AV) (H : AH) (k : AV → AH → R) : R := opn 2 l0 (fun x0 x1 => (qFn (fun kr => (r85_0 C (qCd (sel 2) (fun k1 => (r85_1 C k1)) (fun k1 => k1) kr)))
(fun fr H => k (.tup []) H) [x0, x1, undef] H : R))
/- refectory/refectoryref08.names -/
noncomputable def r86_4 (k : KT R) : KT R := fun fr H => opn 5 fr (fun s0 s1 s4 s5 s11 => 
(k [s0, s1, s5, s5, s11] H : R))
noncomputable def r86_3 (C : CallF) (k : KT R) : KT R := fun fr H => opn 5 fr (fun s0 s1 s4 s5 s11 => 
(qRes (C 57 [s0] H) fun v14 H =>
qRows z9 1 [(0, v14)] fun v15 =>
qApp 1 16 s5 v15 false H fun v16 H =>
k [s0, s1, s4, v16, s11] H : R))
noncomputable def r86_2 (C : CallF) (k : KT R) : KT R := fun fr H => opn 5 fr (fun s0 s1 s4 s5 s11 => 
(qRes (C 48 [s0, (.int .i64 5), s1] H) fun v11 H =>
k [s0, s1, s4, s5, v11] H : R))
noncomputable def l86_4 (C : CallF) (k1 : KT R) : KT R → KT R := fun k2 => (r86_2 C (qCd (sel 4) (fun k4 => k4) (fun _ => k1) (qBl (fun k3 => (r86_3 C k3)) k2)))
noncomputable def r86_1 (C : CallF) (k : KT R) : KT R := fun fr H => opn 5 fr (fun s0 s1 s4 s5 s11 => 
(qRes (C 57 [s0] H) fun v7 H =>
qRows z9 1 [(0, v7)] fun v8 =>
k [s0, s1, s4, v8, s11] H : R))
noncomputable def r86_0 (k : KT R) : KT R := fun fr H => opn 5 fr (fun s0 s1 s4 s5 s11 => 
(k [s0, s1, (.sl [] .nil), s5, s11] H : R))
noncomputable def c86 (C : CallF) (l0 : List AV) (H : AH) (k : AV → AH → R) : R := opn 2 l0 (fun x0 x1 => (qFn (fun kr => (r86_0 (r86_1 C (qBl (fun k1 => (qLoop (l86_4 C k1))) (r86_4 kr)))))
(fun fr H => k (sel 2 fr) H) [x0, x1, undef, undef, undef] H : R))
/- refectory/refectoryref08.fields -/
noncomputable def r87_12 (k : KT R) : KT R := fun fr H => opn 6 fr (fun s0 s2 s3 s4 s21 s28 => 
(k [s0, s3, s3, s4, s21, s28] H : R))
noncomputable def r87_11 (k : KT R) : KT R := fun fr H => opn 6 fr (fun s0 s2 s3 s4 s21 s28 => 
(qLdA 5 s4 H fun v41 =>
qRows z117 1 [(0, v41)] fun v42 =>
qApp 5 80 s3 v42 false H fun v43 H =>
k [s0, s2, v43, s4, s21, s28] H : R))
noncomputable def r87_10 (C : CallF) (k : KT R) : KT R := fun fr H => opn 6 fr (fun s0 s2 s3 s4 s21 s28 => 
(qRes (C 120 [s0] H) fun v38 H =>
qFa 4 s4 fun v39 =>
qSt 1 v39 v38 H fun _ H =>
k [s0, s2, s3, s4, s21, s28] H : R))
noncomputable def r87_9 (C : CallF) (k : KT R) : KT R := fun fr H => opn 6 fr (fun s0 s2 s3 s4 s21 s28 => 
(qRes (C 101 [s0] H) fun v35 H =>
qFa 2 s4 fun v36 =>
qSt 2 v36 v35 H fun _ H =>
k [s0, s2, s3, s4, s21, s28] H : R))
noncomputable def r87_8 (C : CallF) (k : KT R) : KT R := fun fr H => opn 6 fr (fun s0 s2 s3 s4 s21 s28 => 
(qRes (C 85 [s0, (.str [58])] H) fun v33 H =>
k [s0, s2, s3, s4, s21, s28] H : R))
noncomputable def r87_7 (C : CallF) (k : KT R) : KT R := fun fr H => opn 6 fr (fun s0 s2 s3 s4 s21 s28 => 
(qRes (C 89 [s0, (.str [40]), (.str [41])] H) fun v30 H =>
qFa 1 s4 fun v31 =>
qSt 1 v31 v30 H fun _ H =>
k [s0, s2, s3, s4, s21, s28] H : R))
noncomputable def r87_6 (C : CallF) (k : KT R) : KT R := fun fr H => opn 6 fr (fun s0 s2 s3 s4 s21 s28 => 
(qRes (C 55 [s0, (.int .i64 5), (.str [40])] H) fun v28 H =>
k [s0, s2, s3, s4, s21, v28] H : R))
noncomputable def r87_5 (C : CallF) (k : KT R) : KT R := fun fr H => opn 6 fr (fun s0 s2 s3 s4 s21 s28 => 
(qRes (C 57 [s0] H) fun v25 H =>
qBld z117 [(0, 1, v25)] fun v26 =>
qNew (.cells z117) .ptr H fun v4 H =>
qSt 5 v4 v26 H fun _ H =>
k [s0, s2, s3, v4, s21, s28] H : R))
noncomputable def r87_4 (C : CallF) (k : KT R) : KT R := fun fr H => opn 6 fr (fun s0 s2 s3 s4 s21 s28 => 
(qRes (C 47 [s0] H) fun v23 H =>
k [s0, s2, s3, s4, s21, s28] H : R))
noncomputable def r87_3 (C : CallF) (k : KT R) : KT R := fun fr H => opn 6 fr (fun s0 s2 s3 s4 s21 s28 => 
(qNc s0 fun v8 =>
qFa 2 v8 fun v9 =>
qLd v9 H fun v10 =>
qEql X 57 v10 (.int .i64 0) fun v11 =>
qG v11 true (fun k => k s3 H) H fun v13 H =>
qG v11 true (fun k => qLenL v13 fun v => k v H) H fun v14 H =>
qG v11 true (fun k => qEql X 3 v14 (.int .i64 0) fun v => k v H) H fun v15 H =>
qG v11 true (fun k => k v15 H) H fun v16 H =>
qG v16 false (fun k => k s0 H) H fun v17 H =>
qG v16 false (fun k => qRes (C 48 [v17, (.int .i64 5), (.str [125])] H) k) H fun v18 H =>
qG v16 false (fun k => qNot v18 fun v => k v H) H fun v19 H =>
qG v11 true (fun k => qPick v16 (.bool true) v19 fun v => k v H) H fun v20 H =>
qPick v11 v20 (.bool false) fun v21 =>
k [s0, s2, s3, s4, v21, s28] H : R))
noncomputable def l87_5 (C : CallF) (k1 : KT R) : KT R → KT R := fun k2 => (r87_3 C (qCd (sel 4) (fun k5 => k5) (fun _ => k1) (qBl (fun k3 => (r87_4 C (r87_5 C (r87_6 C (qCd (sel 5) (fun k4 => (r87_7 C k4)) (fun k4 => k4) (r87_8 C (r87_9 C (r87_10 C (r87_11 k3))))))))) k2)))
noncomputable def r87_2 (C : CallF) (k : KT R) : KT R := fun fr H => opn 6 fr (fun s0 s2 s3 s4 s21 s28 => 
(qRes (C 85 [s0, (.str [123])] H) fun v6 H =>
k [s0, s2, s3, s4, s21, s28] H : R))
noncomputable def r87_1 (k : KT R) : KT R := fun fr H => opn 6 fr (fun s0 s2 s3 s4 s21 s28 => 
(k [s0, s2, (.sl [] .nil), s4, s21, s28] H : R))
noncomputable def r87_0 (k : KT R) : KT R := fun fr H => opn 6 fr (fun s0 s2 s3 s4 s21 s28 => 
(k [s0, (.sl [] .nil), s3, s4, s21, s28] H : R))
noncomputable def c87 (C : CallF) (l0 : List AV) (H : AH) (k : AV → AH → R) : R := opn 1 l0 (fun x0 => (qFn (fun kr => (r87_0 (r87_1 (r87_2 C (qBl (fun k1 => (qLoop (l87_5 C k1))) (r87_12 kr))))))
(fun fr H => k (sel 1 fr) H) [x0, undef, undef, undef, undef, undef] H : R))
/- refectory/refectoryref08.values -/
noncomputable def r88_6 (k : KT R) : KT R := fun fr H => opn 4 fr (fun s0 s2 s3 s20 => 
(k [s0, s3, s3, s20] H : R))
noncomputable def r88_5 (C : CallF) (k : KT R) : KT R := fun fr H => opn 4 fr (fun s0 s2 s3 s20 => 
(qRes (C 57 [s0] H) fun v25 H =>
qRows z9 1 [(0, v25)] fun v26 =>
qApp 1 16 s3 v26 false H fun v27 H =>
k [s0, s2, v27, s20] H : R))
noncomputable def r88_4 (C : CallF) (k : KT R) : KT R := fun fr H => opn 4 fr (fun s0 s2 s3 s20 => 
(qRes (C 47 [s0] H) fun v22 H =>
k [s0, s2, s3, s20] H : R))
noncomputable def r88_3 (C : CallF) (k : KT R) : KT R := fun fr H => opn 4 fr (fun s0 s2 s3 s20 => 
(qNc s0 fun v7 =>
qFa 2 v7 fun v8 =>
qLd v8 H fun v9 =>
qEql X 57 v9 (.int .i64 0) fun v10 =>
qG v10 true (fun k => k s3 H) H fun v12 H =>
qG v10 true (fun k => qLenL v12 fun v => k v H) H fun v13 H =>
qG v10 true (fun k => qEql X 3 v13 (.int .i64 0) fun v => k v H) H fun v14 H =>
qG v10 true (fun k => k v14 H) H fun v15 H =>
qG v15 false (fun k => k s0 H) H fun v16 H =>
qG v15 false (fun k => qRes (C 48 [v16, (.int .i64 5), (.str [125])] H) k) H fun v17 H =>
qG v15 false (fun k => qNot v17 fun v => k v H) H fun v18 H =>
qG v10 true (fun k => qPick v15 (.bool true) v18 fun v => k v H) H fun v19 H =>
qPick v10 v19 (.bool false) fun v20 =>
k [s0, s2, s3, v20] H : R))
noncomputable def l88_4 (C : CallF) (k1 : KT R) : KT R → KT R := fun k2 => (r88_3 C (qCd (sel 3) (fun k4 => k4) (fun _ => k1) (qBl (fun k3 => (r88_4 C (r88_5 C k3))) k2)))
noncomputable def r88_2 (C : CallF) (k : KT R) : KT R := fun fr H => opn 4 fr (fun s0 s2 s3 s20 => 
(qRes (C 85 [s0, (.str [123])] H) fun v5 H =>
k [s0, s2, s3, s20] H : R))
noncomputable def r88_1 (k : KT R) : KT R := fun fr H => opn 4 fr (fun s0 s2 s3 s20 => 
(k [s0, s2, (.sl [] .nil), s20] H : R))
noncomputable def r88_0 (k : KT R) : KT R := fun fr H => opn 4 fr (fun s0 s2 s3 s20 => 
(k [s0, (.sl [] .nil), s3, s20] H : R))
noncomputable def c88 (C : CallF) (l0 : List AV) (H : AH) (k : AV → AH → R) : R := opn 1 l0 (fun x0 => (qFn (fun kr => (r88_0 (r88_1 (r88_2 C (qBl (fun k1 => (qLoop (l88_4 C k1))) (r88_6 kr))))))
(fun fr H => k (sel 1 fr) H) [x0, undef, undef, undef] H : R))
/- refectory/refectoryref08.inputs -/
noncomputable def r89_5 (k : KT R) : KT R := fun fr H => opn 6 fr (fun s0 s1 s2 s6 s7 s26 => 
(k [s0, s1, s2, s7, s7, s26] H : R))
noncomputable def r89_4 (C : CallF) (k : KT R) : KT R := fun fr H => opn 6 fr (fun s0 s1 s2 s6 s7 s26 => 
(qRes (C 121 [s0] H) fun v29 H =>
qRows z194 1 [(0, v29)] fun v30 =>
qApp 7 120 s7 v30 false H fun v31 H =>
k [s0, s1, s2, s6, v31, s26] H : R))
noncomputable def r89_3 (C : CallF) (k : KT R) : KT R := fun fr H => opn 6 fr (fun s0 s1 s2 s6 s7 s26 => 
(qNc s0 fun v12 =>
qFa 2 v12 fun v13 =>
qLd v13 H fun v14 =>
qEql X 57 v14 (.int .i64 0) fun v15 =>
qG v15 true (fun k => k s7 H) H fun v17 H =>
qG v15 true (fun k => qLenL v17 fun v => k v H) H fun v18 H =>
qG v15 true (fun k => qEql X 3 v18 (.int .i64 0) fun v => k v H) H fun v19 H =>
qG v15 true (fun k => k v19 H) H fun v20 H =>
qG v20 false (fun k => k s0 H) H fun v21 H =>
qG v20 false (fun k => k s2 H) H fun v22 H =>
qG v20 false (fun k => qRes (C 48 [v21, (.int .i64 5), v22] H) k) H fun v23 H =>
qG v20 false (fun k => qNot v23 fun v => k v H) H fun v24 H =>
qG v15 true (fun k => qPick v20 (.bool true) v24 fun v => k v H) H fun v25 H =>
qPick v15 v25 (.bool false) fun v26 =>
k [s0, s1, s2, s6, s7, v26] H : R))
noncomputable def l89_4 (C : CallF) (k1 : KT R) : KT R → KT R := fun k2 => (r89_3 C (qCd (sel 5) (fun k4 => k4) (fun _ => k1) (qBl (fun k3 => (r89_4 C k3)) k2)))
noncomputable def r89_2 (C : CallF) (k : KT R) : KT R := fun fr H => opn 6 fr (fun s0 s1 s2 s6 s7 s26 => 
(qRes (C 85 [s0, s1] H) fun v10 H =>
k [s0, s1, s2, s6, s7, s26] H : R))
noncomputable def r89_1 (k : KT R) : KT R := fun fr H => opn 6 fr (fun s0 s1 s2 s6 s7 s26 => 
(k [s0, s1, s2, s6, (.sl [] .nil), s26] H : R))
noncomputable def r89_0 (k : KT R) : KT R := fun fr H => opn 6 fr (fun s0 s1 s2 s6 s7 s26 => 
(k [s0, s1, s2, (.sl [] .nil), s7, s26] H : R))
noncomputable def c89 (C : CallF) (l0 : List AV) (H : AH) (k : AV → AH → R) : R := opn 3 l0 (fun x0 x1 x2 => (qFn (fun kr => (r89_0 (r89_1 (r89_2 C (qBl (fun k1 => (qLoop (l89_4 C k1))) (r89_5 kr))))))
(fun fr H => k (sel 3 fr) H) [x0, x1, x2, undef, undef, undef] H : R))
/- slices.ContainsFunc[[]refectory/api.Dir,refectory/api.Dir] -/
noncomputable def r90_1 (C : CallF) (k : KT R) : KT R := fun fr H => opn 3 fr (fun s0 s1 s4 => 
(qRes (C 122 [s0, s1] H) fun v7 H =>
qGeq X 3 v7 (.int .i64 0) fun v8 =>
k [s0, s1, v8] H : R))
noncomputable def r90_0 (k : KT R) : KT R := fun fr H => opn 3 fr (fun s0 s1 s4 => 
(k [s0, s1, (.bool false)] H : R))
noncomputable def c90 (C : CallF) (l0 : List AV) (H : AH) (k : AV → AH → R) : R := opn 2 l0 (fun x0 x1 => (qFn (fun kr => (r90_0 (r90_1 C kr)))
(fun fr H => k (sel 2 fr) H) [x0, x1, undef] H : R))
/- (*refectory/collect.gather).out$1 -/
noncomputable def r91_1 (C : CallF) (k : KT R) : KT R := fun fr H => opn 4 fr (fun s0 s1 s2 s3 => 
(qFa 0 s2 fun v4 =>
qLd v4 H fun v5 =>
qEql X 9 v5 (.str [115,107,105,112]) fun v6 =>
qG v6 true (fun k => qLd s1 H fun v => k v H) H fun v8 H =>
qG v6 true (fun k => qLdA 2 s2 H fun v => k v H) H fun v9 H =>
qG v6 true (fun k => qRes (C 92 [v8, v9, (.str [116,114,117,101])] H) k) H fun v10 H =>
qPick v6 v10 (.bool false) fun v11 =>
qG v11 false (fun k => qFa 0 s2 fun v => k v H) H fun v13 H =>
qG v11 false (fun k => qLd v13 H fun v => k v H) H fun v14 H =>
qG v11 false (fun k => qEql X 9 v14 (.str [105,110,99,108,117,100,101]) fun v => k v H) H fun v15 H =>
qG v11 false (fun k => k v15 H) H fun v16 H =>
qG v16 true (fun k => qLd s1 H fun v => k v H) H fun v17 H =>
qG v16 true (fun k => qLdA 2 s2 H fun v => k v H) H fun v18 H =>
qG v16 true (fun k => qRes (C 92 [v17, v18, (.str [102,97,108,115,101])] H) k) H fun v19 H =>
qG v11 false (fun k => qPick v16 v19 (.bool false) fun v => k v H) H fun v20 H =>
qPick v11 (.bool true) v20 fun v21 =>
k [s0, s1, s2, v21] H : R))
noncomputable def r91_0 (k : KT R) : KT R := fun fr H => opn 4 fr (fun s0 s1 s2 s3 => 
(qBox s0 H fun v2 H =>
k [s0, s1, v2, (.bool false)] H : R))
noncomputable def c91 (C : CallF) (l0 : List AV) (H : AH) (k : AV → AH → R) : R := opn 2 l0 (fun x0 x1 => (qFn (fun kr => (r91_0 (r91_1 C kr)))
(fun fr H => k (sel 3 fr) H) [x0, x1, undef, undef] H : R))
/- (*refectory/collect.gather).says -/
noncomputable def r92_7 (k : KT R) : KT R := fun fr H => opn 9 fr (fun s0 s1 s2 s4 s6 s7 s8 s13 s22 => 
(qFa 0 s8 fun v33 =>
qLd v33 H fun v34 =>
qEql X 3 v34 (.int .i64 2) fun v35 =>
qG v35 true (fun k => qFa 1 s8 fun v => k v H) H fun v37 H =>
qG v35 true (fun k => qLd v37 H fun v => k v H) H fun v38 H =>
qG v35 true (fun k => k s2 H) H fun v39 H =>
qG v35 true (fun k => qEql X 9 v38 v39 fun v => k v H) H fun v40 H =>
qPick v35 v40 (.bool false) fun v41 =>
k [s0, s1, s2, s4, v41, s7, s8, s13, s22] H : R))
noncomputable def r92_6 (C : CallF) (k : KT R) : KT R := fun fr H => opn 9 fr (fun s0 s1 s2 s4 s6 s7 s8 s13 s22 => 
(qNc s0 fun v25 =>
qFa 6 v25 fun v26 =>
qLdA 4 v26 H fun v27 =>
qFa 1 s8 fun v28 =>
qLd v28 H fun v29 =>
qRes (C 125 [v27, v29] H) fun v30 H =>
qExt v30 0 fun v31 =>
qExt v30 1 fun v32 =>
qSt 4 s8 v31 H fun _ H =>
k [s0, s1, s2, s4, s6, s7, s8, s13, s22] H : R))
noncomputable def r92_5 (k : KT R) : KT R := fun fr H => opn 9 fr (fun s0 s1 s2 s4 s6 s7 s8 s13 s22 => 
(qFa 0 s8 fun v20 =>
qLd v20 H fun v21 =>
qEql X 3 v21 (.int .i64 9) fun v22 =>
k [s0, s1, s2, s4, s6, s7, s8, s13, v22] H : R))
noncomputable def r92_4 (k : KT R) : KT R := fun fr H => opn 9 fr (fun s0 s1 s2 s4 s6 s7 s8 s13 s22 => 
(qFa 1 s4 fun v14 =>
qLd v14 H fun v15 =>
qIa 5 v15 s7 fun v17 =>
qFa 1 v17 fun v18 =>
qLdA 4 v18 H fun v19 =>
qNew (.cells z30) .ptr H fun v8 H =>
qSt 4 v8 v19 H fun _ H =>
k [s0, s1, s2, s4, s6, s7, v8, s13, s22] H : R))
noncomputable def r92_3 (k : KT R) : KT R := fun fr H => opn 9 fr (fun s0 s1 s2 s4 s6 s7 s8 s13 s22 => 
(k [s0, s1, s2, s4, (.bool false), s7, s8, s13, s22] H : R))
noncomputable def r92_2 (k : KT R) : KT R := fun fr H => opn 9 fr (fun s0 s1 s2 s4 s6 s7 s8 s13 s22 => 
(qLss X 3 s7 (.int .i64 0) fun v13 =>
k [s0, s1, s2, s4, s6, s7, s8, v13, s22] H : R))
noncomputable def r92_1 (C : CallF) (k : KT R) : KT R := fun fr H => opn 9 fr (fun s0 s1 s2 s4 s6 s7 s8 s13 s22 => 
(qFa 1 s4 fun v9 =>
qLd v9 H fun v10 =>
qRes (C 123 [v10, (.fn (.func 124) [] [])] H) fun v11 H =>
k [s0, s1, s2, s4, s6, v11, s8, s13, s22] H : R))
noncomputable def r92_0 (k : KT R) : KT R := fun fr H => opn 9 fr (fun s0 s1 s2 s4 s6 s7 s8 s13 s22 => 
(qBox s1 H fun v4 H =>
k [s0, s1, s2, v4, (.bool false), s7, s8, s13, s22] H : R))
noncomputable def c92 (C : CallF) (l0 : List AV) (H : AH) (k : AV → AH → R) : R := opn 3 l0 (fun x0 x1 x2 => (qFn (fun kr => (r92_0 (r92_1 C (r92_2 (qCd (sel 7) (fun _ => (r92_3 kr)) (fun k2 => k2) (r92_4 (r92_5 (qCd (sel 8) (fun k1 => (r92_6 C k1)) (fun k1 => k1) (r92_7 kr)))))))))
(fun fr H => k (sel 4 fr) H) [x0, x1, x2, undef, undef, undef, undef, undef, undef] H : R))
/- refectory/schema.Possible -/
noncomputable def r93_10 (k : KT R) : KT R := fun fr H => opn 13 fr (fun s0 s1 s2 s4 s5 s7 s9 s10 s18 s19 s20 s21 s75 => 
(k [s0, s1, s2, s7, s5, s7, s9, s10, s18, s19, s20, s21, s75] H : R))
noncomputable def r93_9 (k : KT R) : KT R := fun fr H => opn 13 fr (fun s0 s1 s2 s4 s5 s7 s9 s10 s18 s19 s20 s21 s75 => 
(qAdd X 3 s20 (.int .i64 1) fun v81 =>
k [s0, s1, s2, s4, s5, s7, s9, s10, s18, s19, v81, s21, s75] H : R))
noncomputable def r93_8 (k : KT R) : KT R := fun fr H => opn 13 fr (fun s0 s1 s2 s4 s5 s7 s9 s10 s18 s19 s20 s21 s75 => 
(qFa 1 s9 fun v77 =>
qLd v77 H fun v78 =>
qRows z9 1 [(0, v78)] fun v79 =>
qApp 1 16 s7 v79 false H fun v80 H =>
k [s0, s1, s2, s4, s5, v80, s9, s10, s18, s19, s20, s21, s75] H : R))
noncomputable def r93_7 (C : CallF) (k : KT R) : KT R := fun fr H => opn 13 fr (fun s0 s1 s2 s4 s5 s7 s9 s10 s18 s19 s20 s21 s75 => 
(qG s10 true (fun k => qLdA 3 s2 H fun v => k v H) H fun v58 H =>
qG s10 true (fun k => qFa 1 s9 fun v => k v H) H fun v59 H =>
qG s10 true (fun k => qLd v59 H fun v => k v H) H fun v60 H =>
qG s10 true (fun k => qRes (C 104 [v58, v60] H) k) H fun v61 H =>
qG s10 true (fun k => qEql X 3 v61 (.int .i64 2) fun v => k v H) H fun v62 H =>
qPick s10 v62 (.bool false) fun v63 =>
qG v63 true (fun k => qFa 0 s9 fun v => k v H) H fun v65 H =>
qG v63 true (fun k => qLd v65 H fun v => k v H) H fun v66 H =>
qG v63 true (fun k => qEql X 3 v66 (.int .i64 2) fun v => k v H) H fun v67 H =>
qPick v63 v67 (.bool false) fun v68 =>
qG v68 true (fun k => k s7 H) H fun v70 H =>
qG v68 true (fun k => qFa 1 s9 fun v => k v H) H fun v71 H =>
qG v68 true (fun k => qLd v71 H fun v => k v H) H fun v72 H =>
qG v68 true (fun k => qRes (C 71 [v70, v72] H) k) H fun v73 H =>
qG v68 true (fun k => qNot v73 fun v => k v H) H fun v74 H =>
qPick v68 v74 (.bool false) fun v75 =>
k [s0, s1, s2, s4, s5, s7, s9, s10, s18, s19, s20, s21, v75] H : R))
noncomputable def r93_6 (C : CallF) (k : KT R) : KT R := fun fr H => opn 13 fr (fun s0 s1 s2 s4 s5 s7 s9 s10 s18 s19 s20 s21 s75 => 
(qFa 0 s5 fun v24 =>
qLd v24 H fun v25 =>
qEql X 3 v25 (.int .i64 2) fun v26 =>
qG v26 true (fun k => qFa 1 s9 fun v => k v H) H fun v28 H =>
qG v26 true (fun k => qLd v28 H fun v => k v H) H fun v29 H =>
qG v26 true (fun k => k s1 H) H fun v30 H =>
qG v26 true (fun k => qEql X 9 v29 v30 fun v => k v H) H fun v31 H =>
qPick v26 v31 (.bool false) fun v32 =>
qG v32 false (fun k => qFa 0 s5 fun v => k v H) H fun v34 H =>
qG v32 false (fun k => qLd v34 H fun v => k v H) H fun v35 H =>
qG v32 false (fun k => qEql X 3 v35 (.int .i64 3) fun v => k v H) H fun v36 H =>
qG v32 false (fun k => k v36 H) H fun v37 H =>
qG v37 true (fun k => qFa 2 s9 fun v => k v H) H fun v38 H =>
qG v37 true (fun k => qLd v38 H fun v => k v H) H fun v39 H =>
qG v37 true (fun k => k s1 H) H fun v40 H =>
qG v37 true (fun k => qRes (C 71 [v39, v40] H) k) H fun v41 H =>
qG v32 false (fun k => qPick v37 v41 (.bool false) fun v => k v H) H fun v42 H =>
qPick v32 (.bool true) v42 fun v43 =>
qG v43 false (fun k => qFa 0 s5 fun v => k v H) H fun v45 H =>
qG v43 false (fun k => qLd v45 H fun v => k v H) H fun v46 H =>
qG v43 false (fun k => qEql X 3 v46 (.int .i64 4) fun v => k v H) H fun v47 H =>
qG v43 false (fun k => k v47 H) H fun v48 H =>
qG v48 true (fun k => qFa 2 s5 fun v => k v H) H fun v49 H =>
qG v48 true (fun k => qLd v49 H fun v => k v H) H fun v50 H =>
qG v48 true (fun k => qFa 1 s9 fun v => k v H) H fun v51 H =>
qG v48 true (fun k => qLd v51 H fun v => k v H) H fun v52 H =>
qG v48 true (fun k => qRes (C 71 [v50, v52] H) k) H fun v53 H =>
qG v43 false (fun k => qPick v48 v53 (.bool false) fun v => k v H) H fun v54 H =>
qPick v43 (.bool true) v54 fun v55 =>
k [s0, s1, s2, s4, s5, s7, s9, v55, s18, s19, s20, s21, s75] H : R))
noncomputable def r93_5 (k : KT R) : KT R := fun fr H => opn 13 fr (fun s0 s1 s2 s4 s5 s7 s9 s10 s18 s19 s20 s21 s75 => 
(qIa 5 s18 s20 fun v22 =>
qLdA 5 v22 H fun v23 =>
qNew (.cells z110) .ptr H fun v9 H =>
qSt 5 v9 v23 H fun _ H =>
k [s0, s1, s2, s4, s5, s7, v9, s10, s18, s19, s20, s21, s75] H : R))
noncomputable def r93_4 (k : KT R) : KT R := fun fr H => opn 13 fr (fun s0 s1 s2 s4 s5 s7 s9 s10 s18 s19 s20 s21 s75 => 
(qLss X 3 s20 s19 fun v21 =>
k [s0, s1, s2, s4, s5, s7, s9, s10, s18, s19, s20, v21, s75] H : R))
noncomputable def l93_5 (C : CallF) (k1 : KT R) : KT R → KT R := fun k2 => (r93_4 (qCd (sel 11) (fun k5 => k5) (fun _ => k1) (qBl (fun k3 => (r93_5 (r93_6 C (r93_7 C (qCd (sel 12) (fun k4 => (r93_8 k4)) (fun k4 => k4) k3))))) (r93_9 k2))))
noncomputable def r93_3 (k : KT R) : KT R := fun fr H => opn 13 fr (fun s0 s1 s2 s4 s5 s7 s9 s10 s18 s19 s20 s21 s75 => 
(qFa 2 s2 fun v17 =>
qLd v17 H fun v18 =>
qLenL v18 fun v19 =>
k [s0, s1, s2, s4, s5, s7, s9, s10, v18, v19, (.int .i64 0), s21, s75] H : R))
noncomputable def r93_2 (k : KT R) : KT R := fun fr H => opn 13 fr (fun s0 s1 s2 s4 s5 s7 s9 s10 s18 s19 s20 s21 s75 => 
(k [s0, s1, s2, s4, s5, (.sl [] .nil), s9, s10, s18, s19, s20, s21, s75] H : R))
noncomputable def r93_1 (C : CallF) (k : KT R) : KT R := fun fr H => opn 13 fr (fun s0 s1 s2 s4 s5 s7 s9 s10 s18 s19 s20 s21 s75 => 
(qLdA 3 s2 H fun v12 =>
qRes (C 126 [v12, s1] H) fun v14 H =>
qExt v14 0 fun v15 =>
qExt v14 1 fun v16 =>
qNew (.cells z110) .ptr H fun v5 H =>
qSt 5 v5 v15 H fun _ H =>
k [s0, s1, s2, s4, v5, s7, s9, s10, s18, s19, s20, s21, s75] H : R))
noncomputable def r93_0 (k : KT R) : KT R := fun fr H => opn 13 fr (fun s0 s1 s2 s4 s5 s7 s9 s10 s18 s19 s20 s21 s75 => 
(qBox s0 H fun v2 H =>
k [s0, s1, v2, (.sl [] .nil), s5, s7, s9, s10, s18, s19, s20, s21, s75] H : R))
noncomputable def c93 (C : CallF) (l0 : List AV) (H : AH) (k : AV → AH → R) : R := opn 2 l0 (fun x0 x1 => (qFn (fun kr => (r93_0 (r93_1 C (r93_2 (r93_3 (qBl (fun k1 => (qLoop (l93_5 C k1))) (r93_10 kr)))))))
(fun fr H => k (sel 3 fr) H) [x0, x1, undef, undef, undef, undef, undef, undef, undef, undef, undef, undef, undef] H : R))
/- refectory/refectoryref01.Letter -/
noncomputable def r94_1 (k : KT R) : KT R := fun fr H => opn 2 fr (fun s0 s2 => 
(qGeq X 5 s0 (.int .u8 97) fun v4 =>
qG v4 true (fun k => k s0 H) H fun v6 H =>
qG v4 true (fun k => qLeq X 5 v6 (.int .u8 122) fun v => k v H) H fun v7 H =>
qPick v4 v7 (.bool false) fun v8 =>
qG v8 false (fun k => k s0 H) H fun v10 H =>
qG v8 false (fun k => qGeq X 5 v10 (.int .u8 65) fun v => k v H) H fun v11 H =>
qG v8 false (fun k => k v11 H) H fun v12 H =>
qG v12 true (fun k => k s0 H) H fun v13 H =>
qG v12 true (fun k => qLeq X 5 v13 (.int .u8 90) fun v => k v H) H fun v14 H =>
qG v8 false (fun k => qPick v12 v14 (.bool false) fun v => k v H) H fun v15 H =>
qPick v8 (.bool true) v15 fun v16 =>
qG v16 false (fun k => k s0 H) H fun v18 H =>
qG v16 false (fun k => qEql X 5 v18 (.int .u8 95) fun v => k v H) H fun v19 H =>
qPick v16 (.bool true) v19 fun v20 =>
k [s0, v20] H : R))
noncomputable def r94_0 (k : KT R) : KT R := fun fr H => opn 2 fr (fun s0 s2 => 
(k [s0, (.bool false)] H : R))
noncomputable def c94 (C : CallF) (l0 : List AV) (H : AH) (k : AV → AH → R) : R := opn 1 l0 (fun x0 => (qFn (fun kr => (r94_0 (r94_1 kr)))
(fun fr H => k (sel 1 fr) H) [x0, undef] H : R))
/- refectory/refectoryref01.Digit -/
noncomputable def r95_1 (k : KT R) : KT R := fun fr H => opn 2 fr (fun s0 s2 => 
(qGeq X 5 s0 (.int .u8 48) fun v4 =>
qG v4 true (fun k => k s0 H) H fun v6 H =>
qG v4 true (fun k => qLeq X 5 v6 (.int .u8 57) fun v => k v H) H fun v7 H =>
qPick v4 v7 (.bool false) fun v8 =>
k [s0, v8] H : R))
noncomputable def r95_0 (k : KT R) : KT R := fun fr H => opn 2 fr (fun s0 s2 => 
(k [s0, (.bool false)] H : R))
noncomputable def c95 (C : CallF) (l0 : List AV) (H : AH) (k : AV → AH → R) : R := opn 1 l0 (fun x0 => (qFn (fun kr => (r95_0 (r95_1 kr)))
(fun fr H => k (sel 1 fr) H) [x0, undef] H : R))
/- refectory/refectoryref04.part -/
noncomputable def r96_1 (C : CallF) (k : KT R) : KT R := fun fr H => opn 2 fr (fun s0 s2 => 
(qRes (C 94 [s0] H) fun v4 H =>
qG v4 false (fun k => k s0 H) H fun v6 H =>
qG v4 false (fun k => qRes (C 95 [v6] H) k) H fun v7 H =>
qPick v4 (.bool true) v7 fun v8 =>
qG v8 false (fun k => k s0 H) H fun v10 H =>
qG v8 false (fun k => qEql X 5 v10 (.int .u8 46) fun v => k v H) H fun v11 H =>
qPick v8 (.bool true) v11 fun v12 =>
qG v12 false (fun k => k s0 H) H fun v14 H =>
qG v12 false (fun k => qEql X 5 v14 (.int .u8 43) fun v => k v H) H fun v15 H =>
qPick v12 (.bool true) v15 fun v16 =>
qG v16 false (fun k => k s0 H) H fun v18 H =>
qG v16 false (fun k => qEql X 5 v18 (.int .u8 45) fun v => k v H) H fun v19 H =>
qPick v16 (.bool true) v19 fun v20 =>
k [s0, v20] H : R))
noncomputable def r96_0 (k : KT R) : KT R := fun fr H => opn 2 fr (fun s0 s2 => 
(k [s0, (.bool false)] H : R))
noncomputable def c96 (C : CallF) (l0 : List AV) (H : AH) (k : AV → AH → R) : R := opn 1 l0 (fun x0 => (qFn (fun kr => (r96_0 (r96_1 C kr)))
(fun fr H => k (sel 1 fr) H) [x0, undef] H : R))
/- refectory/refectoryref02.Number -/
noncomputable def r97_25 (k : KT R) : KT R := fun fr H => opn 15 fr (fun s0 s2 s3 s4 s5 s6 s9 s19 s36 s49 s55 s75 s93 s100 s107 => 
(k [s0, s5, (.bool true), s4, s5, s6, s9, s19, s36, s49, s55, s75, s93, s100, s107] H : R))
noncomputable def r97_24 (k : KT R) : KT R := fun fr H => opn 15 fr (fun s0 s2 s3 s4 s5 s6 s9 s19 s36 s49 s55 s75 s93 s100 s107 => 
(k [s0, (.bool false), (.bool false), s4, s5, s6, s9, s19, s36, s49, s55, s75, s93, s100, s107] H : R))
noncomputable def r97_23 (k : KT R) : KT R := fun fr H => opn 15 fr (fun s0 s2 s3 s4 s5 s6 s9 s19 s36 s49 s55 s75 s93 s100 s107 => 
(qLenS s0 fun v106 =>
qNeq X 3 s4 v106 fun v107 =>
k [s0, s2, s3, s4, s5, s6, s9, s19, s36, s49, s55, s75, s93, s100, v107] H : R))
noncomputable def r97_22 (k : KT R) : KT R := fun fr H => opn 15 fr (fun s0 s2 s3 s4 s5 s6 s9 s19 s36 s49 s55 s75 s93 s100 s107 => 
(qAdd X 3 s4 s6 fun v103 =>
k [s0, s2, s3, v103, (.bool false), s6, s9, s19, s36, s49, s55, s75, s93, s100, s107] H : R))
noncomputable def r97_21 (k : KT R) : KT R := fun fr H => opn 15 fr (fun s0 s2 s3 s4 s5 s6 s9 s19 s36 s49 s55 s75 s93 s100 s107 => 
(k [s0, (.bool false), (.bool false), s4, s5, s6, s9, s19, s36, s49, s55, s75, s93, s100, s107] H : R))
noncomputable def r97_20 (k : KT R) : KT R := fun fr H => opn 15 fr (fun s0 s2 s3 s4 s5 s6 s9 s19 s36 s49 s55 s75 s93 s100 s107 => 
(qEql X 3 s6 (.int .i64 0) fun v100 =>
k [s0, s2, s3, s4, s5, s6, s9, s19, s36, s49, s55, s75, s93, v100, s107] H : R))
noncomputable def r97_19 (C : CallF) (k : KT R) : KT R := fun fr H => opn 15 fr (fun s0 s2 s3 s4 s5 s6 s9 s19 s36 s49 s55 s75 s93 s100 s107 => 
(qRes (C 127 [s0, s4] H) fun v98 H =>
k [s0, s2, s3, s4, s5, v98, s9, s19, s36, s49, s55, s75, s93, s100, s107] H : R))
noncomputable def r97_18 (k : KT R) : KT R := fun fr H => opn 15 fr (fun s0 s2 s3 s4 s5 s6 s9 s19 s36 s49 s55 s75 s93 s100 s107 => 
(qAdd X 3 s4 (.int .i64 1) fun v95 =>
k [s0, s2, s3, v95, s5, s6, s9, s19, s36, s49, s55, s75, s93, s100, s107] H : R))
noncomputable def r97_17 (k : KT R) : KT R := fun fr H => opn 15 fr (fun s0 s2 s3 s4 s5 s6 s9 s19 s36 s49 s55 s75 s93 s100 s107 => 
(qLenS s0 fun v80 =>
qLss X 3 s4 v80 fun v81 =>
qG v81 true (fun k => k s0 H) H fun v83 H =>
qG v81 true (fun k => k s4 H) H fun v84 H =>
qG v81 true (fun k => qIx v83 v84 fun v => k v H) H fun v85 H =>
qG v81 true (fun k => qEql X 5 v85 (.int .u8 43) fun v => k v H) H fun v86 H =>
qG v81 true (fun k => k v86 H) H fun v87 H =>
qG v87 false (fun k => k s0 H) H fun v88 H =>
qG v87 false (fun k => k s4 H) H fun v89 H =>
qG v87 false (fun k => qIx v88 v89 fun v => k v H) H fun v90 H =>
qG v87 false (fun k => qEql X 5 v90 (.int .u8 45) fun v => k v H) H fun v91 H =>
qG v81 true (fun k => qPick v87 (.bool true) v91 fun v => k v H) H fun v92 H =>
qPick v81 v92 (.bool false) fun v93 =>
k [s0, s2, s3, s4, s5, s6, s9, s19, s36, s49, s55, s75, v93, s100, s107] H : R))
noncomputable def r97_16 (k : KT R) : KT R := fun fr H => opn 15 fr (fun s0 s2 s3 s4 s5 s6 s9 s19 s36 s49 s55 s75 s93 s100 s107 => 
(qAdd X 3 s4 (.int .i64 1) fun v77 =>
k [s0, s2, s3, v77, s5, s6, s9, s19, s36, s49, s55, s75, s93, s100, s107] H : R))
noncomputable def r97_15 (k : KT R) : KT R := fun fr H => opn 15 fr (fun s0 s2 s3 s4 s5 s6 s9 s19 s36 s49 s55 s75 s93 s100 s107 => 
(qLenS s0 fun v62 =>
qLss X 3 s4 v62 fun v63 =>
qG v63 true (fun k => k s0 H) H fun v65 H =>
qG v63 true (fun k => k s4 H) H fun v66 H =>
qG v63 true (fun k => qIx v65 v66 fun v => k v H) H fun v67 H =>
qG v63 true (fun k => qEql X 5 v67 (.int .u8 101) fun v => k v H) H fun v68 H =>
qG v63 true (fun k => k v68 H) H fun v69 H =>
qG v69 false (fun k => k s0 H) H fun v70 H =>
qG v69 false (fun k => k s4 H) H fun v71 H =>
qG v69 false (fun k => qIx v70 v71 fun v => k v H) H fun v72 H =>
qG v69 false (fun k => qEql X 5 v72 (.int .u8 69) fun v => k v H) H fun v73 H =>
qG v63 true (fun k => qPick v69 (.bool true) v73 fun v => k v H) H fun v74 H =>
qPick v63 v74 (.bool false) fun v75 =>
k [s0, s2, s3, s4, s5, s6, s9, s19, s36, s49, s55, v75, s93, s100, s107] H : R))
noncomputable def r97_14 (k : KT R) : KT R := fun fr H => opn 15 fr (fun s0 s2 s3 s4 s5 s6 s9 s19 s36 s49 s55 s75 s93 s100 s107 => 
(qAdd X 3 s4 (.int .i64 1) fun v57 =>
qAdd X 3 v57 s6 fun v59 =>
k [s0, s2, s3, v59, (.bool false), s6, s9, s19, s36, s49, s55, s75, s93, s100, s107] H : R))
noncomputable def r97_13 (k : KT R) : KT R := fun fr H => opn 15 fr (fun s0 s2 s3 s4 s5 s6 s9 s19 s36 s49 s55 s75 s93 s100 s107 => 
(k [s0, (.bool false), (.bool false), s4, s5, s6, s9, s19, s36, s49, s55, s75, s93, s100, s107] H : R))
noncomputable def r97_12 (k : KT R) : KT R := fun fr H => opn 15 fr (fun s0 s2 s3 s4 s5 s6 s9 s19 s36 s49 s55 s75 s93 s100 s107 => 
(qEql X 3 s6 (.int .i64 0) fun v55 =>
k [s0, s2, s3, s4, s5, s6, s9, s19, s36, s49, v55, s75, s93, s100, s107] H : R))
noncomputable def r97_11 (C : CallF) (k : KT R) : KT R := fun fr H => opn 15 fr (fun s0 s2 s3 s4 s5 s6 s9 s19 s36 s49 s55 s75 s93 s100 s107 => 
(qAdd X 3 s4 (.int .i64 1) fun v52 =>
qRes (C 127 [s0, v52] H) fun v53 H =>
k [s0, s2, s3, s4, s5, v53, s9, s19, s36, s49, s55, s75, s93, s100, s107] H : R))
noncomputable def r97_10 (k : KT R) : KT R := fun fr H => opn 15 fr (fun s0 s2 s3 s4 s5 s6 s9 s19 s36 s49 s55 s75 s93 s100 s107 => 
(qLenS s0 fun v42 =>
qLss X 3 s4 v42 fun v43 =>
qG v43 true (fun k => k s0 H) H fun v45 H =>
qG v43 true (fun k => k s4 H) H fun v46 H =>
qG v43 true (fun k => qIx v45 v46 fun v => k v H) H fun v47 H =>
qG v43 true (fun k => qEql X 5 v47 (.int .u8 46) fun v => k v H) H fun v48 H =>
qPick v43 v48 (.bool false) fun v49 =>
k [s0, s2, s3, s4, s5, s6, s9, s19, s36, v49, s55, s75, s93, s100, s107] H : R))
noncomputable def r97_9 (k : KT R) : KT R := fun fr H => opn 15 fr (fun s0 s2 s3 s4 s5 s6 s9 s19 s36 s49 s55 s75 s93 s100 s107 => 
(qAdd X 3 s4 s6 fun v39 =>
k [s0, s2, s3, v39, s5, s6, s9, s19, s36, s49, s55, s75, s93, s100, s107] H : R))
noncomputable def r97_8 (k : KT R) : KT R := fun fr H => opn 15 fr (fun s0 s2 s3 s4 s5 s6 s9 s19 s36 s49 s55 s75 s93 s100 s107 => 
(k [s0, (.bool false), (.bool false), s4, s5, s6, s9, s19, s36, s49, s55, s75, s93, s100, s107] H : R))
noncomputable def r97_7 (k : KT R) : KT R := fun fr H => opn 15 fr (fun s0 s2 s3 s4 s5 s6 s9 s19 s36 s49 s55 s75 s93 s100 s107 => 
(qEql X 3 s6 (.int .i64 0) fun v26 =>
qG v26 false (fun k => k s6 H) H fun v28 H =>
qG v26 false (fun k => qGtr X 3 v28 (.int .i64 1) fun v => k v H) H fun v29 H =>
qG v26 false (fun k => k v29 H) H fun v30 H =>
qG v30 true (fun k => k s0 H) H fun v31 H =>
qG v30 true (fun k => k s4 H) H fun v32 H =>
qG v30 true (fun k => qIx v31 v32 fun v => k v H) H fun v33 H =>
qG v30 true (fun k => qEql X 5 v33 (.int .u8 48) fun v => k v H) H fun v34 H =>
qG v26 false (fun k => qPick v30 v34 (.bool false) fun v => k v H) H fun v35 H =>
qPick v26 (.bool true) v35 fun v36 =>
k [s0, s2, s3, s4, s5, s6, s9, s19, v36, s49, s55, s75, s93, s100, s107] H : R))
noncomputable def r97_6 (C : CallF) (k : KT R) : KT R := fun fr H => opn 15 fr (fun s0 s2 s3 s4 s5 s6 s9 s19 s36 s49 s55 s75 s93 s100 s107 => 
(qRes (C 127 [s0, s4] H) fun v24 H =>
k [s0, s2, s3, s4, s5, v24, s9, s19, s36, s49, s55, s75, s93, s100, s107] H : R))
noncomputable def r97_5 (k : KT R) : KT R := fun fr H => opn 15 fr (fun s0 s2 s3 s4 s5 s6 s9 s19 s36 s49 s55 s75 s93 s100 s107 => 
(qAdd X 3 s4 (.int .i64 1) fun v21 =>
k [s0, s2, s3, v21, s5, s6, s9, s19, s36, s49, s55, s75, s93, s100, s107] H : R))
noncomputable def r97_4 (k : KT R) : KT R := fun fr H => opn 15 fr (fun s0 s2 s3 s4 s5 s6 s9 s19 s36 s49 s55 s75 s93 s100 s107 => 
(qLenS s0 fun v12 =>
qLss X 3 s4 v12 fun v13 =>
qG v13 true (fun k => k s0 H) H fun v15 H =>
qG v13 true (fun k => k s4 H) H fun v16 H =>
qG v13 true (fun k => qIx v15 v16 fun v => k v H) H fun v17 H =>
qG v13 true (fun k => qEql X 5 v17 (.int .u8 45) fun v => k v H) H fun v18 H =>
qPick v13 v18 (.bool false) fun v19 =>
k [s0, s2, s3, s4, s5, s6, s9, v19, s36, s49, s55, s75, s93, s100, s107] H : R))
noncomputable def r97_3 (k : KT R) : KT R := fun fr H => opn 15 fr (fun s0 s2 s3 s4 s5 s6 s9 s19 s36 s49 s55 s75 s93 s100 s107 => 
(k [s0, (.bool false), (.bool false), s4, s5, s6, s9, s19, s36, s49, s55, s75, s93, s100, s107] H : R))
noncomputable def r97_2 (k : KT R) : KT R := fun fr H => opn 15 fr (fun s0 s2 s3 s4 s5 s6 s9 s19 s36 s49 s55 s75 s93 s100 s107 => 
(qLenS s0 fun v8 =>
qGtr X 3 v8 (.int .i64 40) fun v9 =>
k [s0, s2, s3, s4, s5, s6, v9, s19, s36, s49, s55, s75, s93, s100, s107] H : R))
noncomputable def r97_1 (k : KT R) : KT R := fun fr H => opn 15 fr (fun s0 s2 s3 s4 s5 s6 s9 s19 s36 s49 s55 s75 s93 s100 s107 => 
(k [s0, s2, s3, (.int .i64 0), (.bool true), s6, s9, s19, s36, s49, s55, s75, s93, s100, s107] H : R))
noncomputable def r97_0 (k : KT R) : KT R := fun fr H => opn 15 fr (fun s0 s2 s3 s4 s5 s6 s9 s19 s36 s49 s55 s75 s93 s100 s107 => 
(k [s0, (.bool false), (.bool false), s4, s5, s6, s9, s19, s36, s49, s55, s75, s93, s100, s107] H : R))
noncomputable def c97 (C : CallF) (l0 : List AV) (H : AH) (k : AV → AH → R) : R := opn 1 l0 (fun x0 => (qFn (fun kr => (r97_0 (r97_1 (r97_2 (qCd (sel 6) (fun _ => (r97_3 kr)) (fun k9 => k9) (r97_4 (qCd (sel 7) (fun k8 => (r97_5 k8)) (fun k8 => k8) (r97_6 C (r97_7 (qCd (sel 8) (fun _ => (r97_8 kr)) (fun k7 => k7) (r97_9 (r97_10 (qCd (sel 9) (fun k5 => (r97_11 C (r97_12 (qCd (sel 10) (fun _ => (r97_13 kr)) (fun k6 => k6) (r97_14 k5))))) (fun k5 => k5) (r97_15 (qCd (sel 11) (fun k2 => (r97_16 (r97_17 (qCd (sel 12) (fun k4 => (r97_18 k4)) (fun k4 => k4) (r97_19 C (r97_20 (qCd (sel 13) (fun _ => (r97_21 kr)) (fun k3 => k3) (r97_22 k2)))))))) (fun k2 => k2) (r97_23 (qCd (sel 14) (fun _ => (r97_24 kr)) (fun k1 => k1) (r97_25 kr))))))))))))))))))
(fun fr H => k (.tup [(sel 1 fr), (sel 2 fr)]) H) [x0, undef, undef, undef, undef, undef, undef, undef, undef, undef, undef, undef, undef, undef, undef] H : R))
/- refectory/refectoryref04.text -/
noncomputable def r98_11 (k : KT R) : KT R := fun fr H => opn 12 fr (fun s0 s1 s4 s5 s6 s7 s8 s9 s22 s53 s57 s65 => 
(qAdd X 3 s7 (.int .i64 1) fun v78 =>
k [s0, s1, s8, v78, s9, s7, s8, s9, s22, s53, s57, s65] H : R))
noncomputable def r98_10 (C : CallF) (k : KT R) : KT R := fun fr H => opn 12 fr (fun s0 s1 s4 s5 s6 s7 s8 s9 s22 s53 s57 s65 => 
(qAdd X 3 s7 (.int .i64 1) fun v71 =>
qSlc Try.t9.desc 0 s0 (some s1) (some v71) none fun v72 =>
qRes (C 129 [v72] H) fun v73 H =>
qExt v73 0 fun v74 =>
qExt v73 1 fun v75 =>
k [s0, s1, s4, s5, s6, s7, v74, v75, s22, s53, s57, s65] H : R))
noncomputable def r98_9 (k : KT R) : KT R := fun fr H => opn 12 fr (fun s0 s1 s4 s5 s6 s7 s8 s9 s22 s53 s57 s65 => 
(k [s0, s1, (.str []), s7, (.bool false), s7, s8, s9, s22, s53, s57, s65] H : R))
noncomputable def r98_8 (k : KT R) : KT R := fun fr H => opn 12 fr (fun s0 s1 s4 s5 s6 s7 s8 s9 s22 s53 s57 s65 => 
(qLenS s0 fun v64 =>
qGeq X 3 s7 v64 fun v65 =>
k [s0, s1, s4, s5, s6, s7, s8, s9, s22, s53, s57, v65] H : R))
noncomputable def r98_7 (k : KT R) : KT R := fun fr H => opn 12 fr (fun s0 s1 s4 s5 s6 s7 s8 s9 s22 s53 s57 s65 => 
(qAdd X 3 s7 (.int .i64 1) fun v61 =>
k [s0, s1, s4, s5, s6, v61, s8, s9, s22, s53, s57, s65] H : R))
noncomputable def r98_6 (k : KT R) : KT R := fun fr H => opn 12 fr (fun s0 s1 s4 s5 s6 s7 s8 s9 s22 s53 s57 s65 => 
(qAdd X 3 s7 (.int .i64 1) fun v59 =>
k [s0, s1, s4, s5, s6, v59, s8, s9, s22, s53, s57, s65] H : R))
noncomputable def r98_5 (k : KT R) : KT R := fun fr H => opn 12 fr (fun s0 s1 s4 s5 s6 s7 s8 s9 s22 s53 s57 s65 => 
(qIx s0 s7 fun v56 =>
qEql X 5 v56 (.int .u8 92) fun v57 =>
k [s0, s1, s4, s5, s6, s7, s8, s9, s22, s53, v57, s65] H : R))
noncomputable def r98_4 (k : KT R) : KT R := fun fr H => opn 12 fr (fun s0 s1 s4 s5 s6 s7 s8 s9 s22 s53 s57 s65 => 
(qLenS s0 fun v34 =>
qLss X 3 s7 v34 fun v35 =>
qG v35 true (fun k => k s0 H) H fun v37 H =>
qG v35 true (fun k => k s7 H) H fun v38 H =>
qG v35 true (fun k => qIx v37 v38 fun v => k v H) H fun v39 H =>
qG v35 true (fun k => qNeq X 5 v39 (.int .u8 34) fun v => k v H) H fun v40 H =>
qPick v35 v40 (.bool false) fun v41 =>
qG v41 true (fun k => k s0 H) H fun v43 H =>
qG v41 true (fun k => k s7 H) H fun v44 H =>
qG v41 true (fun k => qIx v43 v44 fun v => k v H) H fun v45 H =>
qG v41 true (fun k => qNeq X 5 v45 (.int .u8 10) fun v => k v H) H fun v46 H =>
qPick v41 v46 (.bool false) fun v47 =>
qG v47 true (fun k => k s0 H) H fun v49 H =>
qG v47 true (fun k => k s7 H) H fun v50 H =>
qG v47 true (fun k => qIx v49 v50 fun v => k v H) H fun v51 H =>
qG v47 true (fun k => qNeq X 5 v51 (.int .u8 13) fun v => k v H) H fun v52 H =>
qPick v47 v52 (.bool false) fun v53 =>
k [s0, s1, s4, s5, s6, s7, s8, s9, s22, v53, s57, s65] H : R))
noncomputable def l98_6 (k2 : KT R) : KT R → KT R := fun k3 => (r98_4 (qCd (sel 9) (fun k6 => k6) (fun _ => k2) (qBl (fun k4 => (r98_5 (qCd (sel 10) (fun k5 => (r98_6 k5)) (fun k5 => k5) (r98_7 k4)))) k3)))
noncomputable def r98_3 (k : KT R) : KT R := fun fr H => opn 12 fr (fun s0 s1 s4 s5 s6 s7 s8 s9 s22 s53 s57 s65 => 
(qAdd X 3 s1 (.int .i64 1) fun v31 =>
k [s0, s1, s4, s5, s6, v31, s8, s9, s22, s53, s57, s65] H : R))
noncomputable def r98_2 (C : CallF) (k : KT R) : KT R := fun fr H => opn 12 fr (fun s0 s1 s4 s5 s6 s7 s8 s9 s22 s53 s57 s65 => 
(qAdd X 3 s1 (.int .i64 3) fun v25 =>
qRes (C 128 [s0, v25] H) fun v26 H =>
qExt v26 0 fun v27 =>
qExt v26 1 fun v28 =>
qExt v26 2 fun v29 =>
k [s0, s1, v27, v28, v29, s7, s8, s9, s22, s53, s57, s65] H : R))
noncomputable def r98_1 (k : KT R) : KT R := fun fr H => opn 12 fr (fun s0 s1 s4 s5 s6 s7 s8 s9 s22 s53 s57 s65 => 
(qLenS s0 fun v11 =>
qSub X 3 v11 s1 fun v13 =>
qGeq X 3 v13 (.int .i64 3) fun v14 =>
qG v14 true (fun k => k s0 H) H fun v16 H =>
qG v14 true (fun k => k s1 H) H fun v17 H =>
qG v14 true (fun k => k s1 H) H fun v18 H =>
qG v14 true (fun k => qAdd X 3 v18 (.int .i64 3) fun v => k v H) H fun v19 H =>
qG v14 true (fun k => qSlc Try.t9.desc 0 v16 (some v17) (some v19) none fun v => k v H) H fun v20 H =>
qG v14 true (fun k => qEql X 9 v20 (.str [34,34,34]) fun v => k v H) H fun v21 H =>
qPick v14 v21 (.bool false) fun v22 =>
k [s0, s1, s4, s5, s6, s7, s8, s9, v22, s53, s57, s65] H : R))
noncomputable def r98_0 (k : KT R) : KT R := fun fr H => opn 12 fr (fun s0 s1 s4 s5 s6 s7 s8 s9 s22 s53 s57 s65 => 
(k [s0, s1, (.str []), (.int .i64 0), (.bool false), s7, s8, s9, s22, s53, s57, s65] H : R))
noncomputable def c98 (C : CallF) (l0 : List AV) (H : AH) (k : AV → AH → R) : R := opn 2 l0 (fun x0 x1 => (qFn (fun kr => (r98_0 (r98_1 (qCd (sel 8) (fun _ => (r98_2 C kr)) (fun k7 => k7) (r98_3 (qBl (fun k2 => (qLoop (l98_6 k2))) (r98_8 (qCd (sel 11) (fun _ => (r98_9 kr)) (fun k1 => k1) (r98_10 C (r98_11 kr))))))))))
(fun fr H => k (.tup [(sel 2 fr), (sel 3 fr), (sel 4 fr)]) H) [x0, x1, undef, undef, undef, undef, undef, undef, undef, undef, undef, undef] H : R))
/- refectory/refectoryref06.sel -/
noncomputable def r99_18 (k : KT R) : KT R := fun fr H => opn 11 fr (fun s0 s1 s4 s5 s6 s7 s10 s15 s29 s43 s52 => 
(qLdA 7 s7 H fun v64 =>
qSt 7 s4 v64 H fun _ H =>
k [s0, s1, s4, s5, s6, s7, s10, s15, s29, s43, s52] H : R))
noncomputable def r99_17 (C : CallF) (k : KT R) : KT R := fun fr H => opn 11 fr (fun s0 s1 s4 s5 s6 s7 s10 s15 s29 s43 s52 => 
(qAdd X 3 s1 (.int .i64 1) fun v61 =>
qRes (C 56 [s0, v61] H) fun v62 H =>
qFa 6 s7 fun v63 =>
qSt 1 v63 v62 H fun _ H =>
k [s0, s1, s4, s5, s6, s7, s10, s15, s29, s43, s52] H : R))
noncomputable def r99_16 (C : CallF) (k : KT R) : KT R := fun fr H => opn 11 fr (fun s0 s1 s4 s5 s6 s7 s10 s15 s29 s43 s52 => 
(qRes (C 60 [s0] H) fun v57 H =>
qFa 5 s7 fun v58 =>
qSt 1 v58 v57 H fun _ H =>
k [s0, s1, s4, s5, s6, s7, s10, s15, s29, s43, s52] H : R))
noncomputable def r99_15 (C : CallF) (k : KT R) : KT R := fun fr H => opn 11 fr (fun s0 s1 s4 s5 s6 s7 s10 s15 s29 s43 s52 => 
(qRes (C 57 [s0] H) fun v54 H =>
qFa 3 s7 fun v55 =>
qSt 1 v55 v54 H fun _ H =>
k [s0, s1, s4, s5, s6, s7, s10, s15, s29, s43, s52] H : R))
noncomputable def r99_14 (C : CallF) (k : KT R) : KT R := fun fr H => opn 11 fr (fun s0 s1 s4 s5 s6 s7 s10 s15 s29 s43 s52 => 
(qRes (C 48 [s0, (.int .i64 1), (.str [111,110])] H) fun v52 H =>
k [s0, s1, s4, s5, s6, s7, s10, s15, s29, s43, v52] H : R))
noncomputable def r99_13 (k : KT R) : KT R := fun fr H => opn 11 fr (fun s0 s1 s4 s5 s6 s7 s10 s15 s29 s43 s52 => 
(qBld z36 [(0, 1, (.int .i64 3))] fun v50 =>
qNew (.cells z36) .ptr H fun v7 H =>
qSt 7 v7 v50 H fun _ H =>
k [s0, s1, s4, s5, s6, v7, s10, s15, s29, s43, s52] H : R))
noncomputable def r99_12 (C : CallF) (k : KT R) : KT R := fun fr H => opn 11 fr (fun s0 s1 s4 s5 s6 s7 s10 s15 s29 s43 s52 => 
(qRes (C 60 [s0] H) fun v48 H =>
qBld z36 [(0, 1, (.int .i64 2)), (2, 1, s6), (5, 1, v48)] fun v49 =>
qSt 7 s4 v49 H fun _ H =>
k [s0, s1, s4, s5, s6, s7, s10, s15, s29, s43, s52] H : R))
noncomputable def r99_11 (C : CallF) (k : KT R) : KT R := fun fr H => opn 11 fr (fun s0 s1 s4 s5 s6 s7 s10 s15 s29 s43 s52 => 
(qRes (C 57 [s0] H) fun v45 H =>
k [s0, s1, s4, s5, v45, s7, s10, s15, s29, s43, s52] H : R))
noncomputable def r99_10 (C : CallF) (k : KT R) : KT R := fun fr H => opn 11 fr (fun s0 s1 s4 s5 s6 s7 s10 s15 s29 s43 s52 => 
(qRes (C 58 [s0] H) fun v37 H =>
qEql X 3 v37 (.int .i64 1) fun v38 =>
qG v38 true (fun k => k s0 H) H fun v40 H =>
qG v38 true (fun k => qRes (C 55 [v40, (.int .i64 1), (.str [111,110])] H) k) H fun v41 H =>
qG v38 true (fun k => qNot v41 fun v => k v H) H fun v42 H =>
qPick v38 v42 (.bool false) fun v43 =>
k [s0, s1, s4, s5, s6, s7, s10, s15, s29, v43, s52] H : R))
noncomputable def r99_9 (k : KT R) : KT R := fun fr H => opn 11 fr (fun s0 s1 s4 s5 s6 s7 s10 s15 s29 s43 s52 => 
(qLdA 7 s5 H fun v35 =>
qSt 7 s4 v35 H fun _ H =>
k [s0, s1, s4, s5, s6, s7, s10, s15, s29, s43, s52] H : R))
noncomputable def r99_8 (C : CallF) (k : KT R) : KT R := fun fr H => opn 11 fr (fun s0 s1 s4 s5 s6 s7 s10 s15 s29 s43 s52 => 
(qAdd X 3 s1 (.int .i64 1) fun v32 =>
qRes (C 56 [s0, v32] H) fun v33 H =>
qFa 6 s5 fun v34 =>
qSt 1 v34 v33 H fun _ H =>
k [s0, s1, s4, s5, s6, s7, s10, s15, s29, s43, s52] H : R))
noncomputable def r99_7 (C : CallF) (k : KT R) : KT R := fun fr H => opn 11 fr (fun s0 s1 s4 s5 s6 s7 s10 s15 s29 s43 s52 => 
(qRes (C 55 [s0, (.int .i64 5), (.str [123])] H) fun v29 H =>
k [s0, s1, s4, s5, s6, s7, s10, s15, v29, s43, s52] H : R))
noncomputable def r99_6 (C : CallF) (k : KT R) : KT R := fun fr H => opn 11 fr (fun s0 s1 s4 s5 s6 s7 s10 s15 s29 s43 s52 => 
(qRes (C 60 [s0] H) fun v26 H =>
qFa 5 s5 fun v27 =>
qSt 1 v27 v26 H fun _ H =>
k [s0, s1, s4, s5, s6, s7, s10, s15, s29, s43, s52] H : R))
noncomputable def r99_5 (C : CallF) (k : KT R) : KT R := fun fr H => opn 11 fr (fun s0 s1 s4 s5 s6 s7 s10 s15 s29 s43 s52 => 
(qRes (C 103 [s0] H) fun v23 H =>
qFa 4 s5 fun v24 =>
qSt 1 v24 v23 H fun _ H =>
k [s0, s1, s4, s5, s6, s7, s10, s15, s29, s43, s52] H : R))
noncomputable def r99_4 (C : CallF) (k : KT R) : KT R := fun fr H => opn 11 fr (fun s0 s1 s4 s5 s6 s7 s10 s15 s29 s43 s52 => 
(qFa 2 s5 fun v16 =>
qLd v16 H fun v17 =>
qFa 1 s5 fun v20 =>
qRes (C 57 [s0] H) fun v19 H =>
qLd v16 H fun w => qSame v17 w (qSt 1 v20 v17 H fun _ H =>
qFa 2 s5 fun v21 =>
qSt 1 v21 v19 H fun _ H =>
k [s0, s1, s4, s5, s6, s7, s10, s15, s29, s43, s52] H) : R))
noncomputable def r99_3 (C : CallF) (k : KT R) : KT R := fun fr H => opn 11 fr (fun s0 s1 s4 s5 s6 s7 s10 s15 s29 s43 s52 => 
(qRes (C 48 [s0, (.int .i64 5), (.str [58])] H) fun v15 H =>
k [s0, s1, s4, s5, s6, s7, s10, v15, s29, s43, s52] H : R))
noncomputable def r99_2 (C : CallF) (k : KT R) : KT R := fun fr H => opn 11 fr (fun s0 s1 s4 s5 s6 s7 s10 s15 s29 s43 s52 => 
(qRes (C 57 [s0] H) fun v12 H =>
qBld z36 [(0, 1, (.int .i64 1)), (2, 1, v12)] fun v13 =>
qNew (.cells z36) .ptr H fun v5 H =>
qSt 7 v5 v13 H fun _ H =>
k [s0, s1, s4, v5, s6, s7, s10, s15, s29, s43, s52] H : R))
noncomputable def r99_1 (C : CallF) (k : KT R) : KT R := fun fr H => opn 11 fr (fun s0 s1 s4 s5 s6 s7 s10 s15 s29 s43 s52 => 
(qRes (C 48 [s0, (.int .i64 5), (.str [46,46,46])] H) fun v9 H =>
qNot v9 fun v10 =>
k [s0, s1, s4, s5, s6, s7, v10, s15, s29, s43, s52] H : R))
noncomputable def r99_0 (k : KT R) : KT R := fun fr H => opn 11 fr (fun s0 s1 s4 s5 s6 s7 s10 s15 s29 s43 s52 => 
(qNew (.cells z36) .ptr H fun v4 H =>
k [s0, s1, v4, s5, s6, s7, s10, s15, s29, s43, s52] H : R))
noncomputable def c99 (C : CallF) (l0 : List AV) (H : AH) (k : AV → AH → R) : R := opn 2 l0 (fun x0 x1 => (qFn (fun kr => (r99_0 (r99_1 C (qCd (sel 6) (fun _ => (r99_2 C (r99_3 C (qCd (sel 7) (fun k5 => (r99_4 C k5)) (fun k5 => k5) (r99_5 C (r99_6 C (r99_7 C (qCd (sel 8) (fun k4 => (r99_8 C k4)) (fun k4 => k4) (r99_9 kr))))))))) (fun k3 => k3) (r99_10 C (qCd (sel 9) (fun _ => (r99_11 C (r99_12 C kr))) (fun k2 => k2) (r99_13 (r99_14 C (qCd (sel 10) (fun k1 => (r99_15 C k1)) (fun k1 => k1) (r99_16 C (r99_17 C (r99_18 kr))))))))))))
(fun fr H => qPtr (sel 2 fr) (qLdA 7 (sel 2 fr) H fun w0 => k w0 H)) [x0, x1, undef, undef, undef, undef, undef, undef, undef, undef, undef] H : R))
/- (*refectory/refectoryref05.P).fail -/
noncomputable def r100_1 (k : KT R) : KT R := fun fr H => opn 4 fr (fun s0 s1 s2 s10 => 
(qNc s0 fun v15 =>
qFa 2 v15 fun v16 =>
qSt 1 v16 s1 H fun _ H =>
qNc s0 fun v17 =>
qFa 3 v17 fun v18 =>
qSt 1 v18 s2 H fun _ H =>
k [s0, s1, s2, s10] H : R))
noncomputable def r100_0 (k : KT R) : KT R := fun fr H => opn 4 fr (fun s0 s1 s2 s10 => 
(qNc s0 fun v7 =>
qFa 2 v7 fun v8 =>
qLd v8 H fun v9 =>
qEql X 57 v9 (.int .i64 0) fun v10 =>
k [s0, s1, s2, v10] H : R))
noncomputable def c100 (C : CallF) (l0 : List AV) (H : AH) (k : AV → AH → R) : R := opn 3 l0 (fun x0 x1 x2 => (qFn (fun kr => (r100_0 (qCd (sel 3) (fun k1 => (r100_1 k1)) (fun k1 => k1) kr)))
(fun fr H => k (.tup []) H) [x0, x1, x2, undef] H : R))
/- (*refectory/refectoryref05.P).Typed -/
noncomputable def r101_6 (k : KT R) : KT R := fun fr H => opn 6 fr (fun s0 s2 s3 s4 s5 s27 => 
(qLdA 2 s3 H fun v39 =>
qSt 2 s2 v39 H fun _ H =>
k [s0, s2, s3, s4, s5, s27] H : R))
noncomputable def r101_5 (k : KT R) : KT R := fun fr H => opn 6 fr (fun s0 s2 s3 s4 s5 s27 => 
(qNc s0 fun v37 =>
qFa 1 v37 fun v38 =>
qSt 1 v38 s4 H fun _ H =>
k [s0, s2, s3, s4, s5, s27] H : R))
noncomputable def r101_4 (k : KT R) : KT R := fun fr H => opn 6 fr (fun s0 s2 s3 s4 s5 s27 => 
(qBld z115 [] fun v34 =>
qSt 2 s2 v34 H fun _ H =>
k [s0, s2, s3, s4, s5, s27] H : R))
noncomputable def r101_3 (C : CallF) (k : KT R) : KT R := fun fr H => opn 6 fr (fun s0 s2 s3 s4 s5 s27 => 
(qNc s0 fun v30 =>
qFa 1 v30 fun v31 =>
qLd v31 H fun v32 =>
qRes (C 100 [s0, (.int .i64 2), v32] H) fun v33 H =>
k [s0, s2, s3, s4, s5, s27] H : R))
noncomputable def r101_2 (k : KT R) : KT R := fun fr H => opn 6 fr (fun s0 s2 s3 s4 s5 s27 => 
(qNot s5 fun v20 =>
qG v20 false (fun k => k s0 H) H fun v22 H =>
qG v20 false (fun k => qNc v22 fun v => k v H) H fun v23 H =>
qG v20 false (fun k => qFa 2 v23 fun v => k v H) H fun v24 H =>
qG v20 false (fun k => qLd v24 H fun v => k v H) H fun v25 H =>
qG v20 false (fun k => qNeq X 57 v25 (.int .i64 0) fun v => k v H) H fun v26 H =>
qPick v20 (.bool true) v26 fun v27 =>
k [s0, s2, s3, s4, s5, v27] H : R))
noncomputable def r101_1 (C : CallF) (k : KT R) : KT R := fun fr H => opn 6 fr (fun s0 s2 s3 s4 s5 s27 => 
(qNc s0 fun v8 =>
qFa 0 v8 fun v9 =>
qLd v9 H fun v10 =>
qNc s0 fun v12 =>
qFa 1 v12 fun v13 =>
qLd v13 H fun v14 =>
qNew (.cells z115) .ptr H fun v3 H =>
qRes (C 130 [v10, v14] H) fun v15 H =>
qKeep z115 v3 H (qExt v15 0 fun v16 =>
qExt v15 1 fun v17 =>
qExt v15 2 fun v18 =>
qSt 2 v3 v16 H fun _ H =>
k [s0, s2, v3, v17, v18, s27] H) : R))
noncomputable def r101_0 (k : KT R) : KT R := fun fr H => opn 6 fr (fun s0 s2 s3 s4 s5 s27 => 
(qNew (.cells z115) .ptr H fun v2 H =>
k [s0, v2, s3, s4, s5, s27] H : R))
noncomputable def c101 (C : CallF) (l0 : List AV) (H : AH) (k : AV → AH → R) : R := opn 1 l0 (fun x0 => (qFn (fun kr => (r101_0 (r101_1 C (r101_2 (qCd (sel 5) (fun _ => (r101_3 C (r101_4 kr))) (fun k1 => k1) (r101_5 (r101_6 kr)))))))
(fun fr H => qPtr (sel 1 fr) (qLdA 2 (sel 1 fr) H fun w0 => k w0 H)) [x0, undef, undef, undef, undef, undef] H : R))
/- (*refectory/refectoryref05.P).Value -/
noncomputable def r102_15 (k : KT R) : KT R := fun fr H => opn 10 fr (fun s0 s1 s4 s5 s6 s13 s19 s49 s61 s68 => 
(qBld z30 [] fun v77 =>
qSt 4 s4 v77 H fun _ H =>
k [s0, s1, s4, s5, s6, s13, s19, s49, s61, s68] H : R))
noncomputable def r102_14 (C : CallF) (k : KT R) : KT R := fun fr H => opn 10 fr (fun s0 s1 s4 s5 s6 s13 s19 s49 s61 s68 => 
(qRes (C 61 [s0] H) fun v76 H =>
k [s0, s1, s4, s5, s6, s13, s19, s49, s61, s68] H : R))
noncomputable def r102_4 (C : CallF) (k : KT R) : KT R := fun fr H => opn 10 fr (fun s0 s1 s4 s5 s6 s13 s19 s49 s61 s68 => 
(qRes (C 57 [s0] H) fun v17 H =>
qRes (C 131 [v17] H) fun v18 H =>
qSt 4 s4 v18 H fun _ H =>
k [s0, s1, s4, s5, s6, s13, s19, s49, s61, s68] H : R))
noncomputable def r102_7 (k : KT R) : KT R := fun fr H => opn 10 fr (fun s0 s1 s4 s5 s6 s13 s19 s49 s61 s68 => 
(qBld z71 [(0, 1, (.int .i64 0)), (1, 1, (.int .i64 0)), (2, 1, (.int .i64 3)), (3, 1, (.int .i64 4)), (4, 1, (.int .i64 5))] fun v37 =>
qO (indexOf X 71 v37 s6) fun v39 =>
qNc s0 fun v41 =>
qFa 0 v41 fun v42 =>
qLd v42 H fun v43 =>
qIa 3 v43 s5 fun v45 =>
qFa 1 v45 fun v46 =>
qLd v46 H fun v47 =>
qBld z30 [(0, 1, v39), (1, 1, v47)] fun v48 =>
qSt 4 s4 v48 H fun _ H =>
k [s0, s1, s4, s5, s6, s13, s19, s49, s61, s68] H : R))
noncomputable def r102_6 (k : KT R) : KT R := fun fr H => opn 10 fr (fun s0 s1 s4 s5 s6 s13 s19 s49 s61 s68 => 
(qNc s0 fun v31 =>
qFa 1 v31 fun v32 =>
qLd v32 H fun v33 =>
qAdd X 3 v33 (.int .i64 1) fun v34 =>
qNc s0 fun v35 =>
qFa 1 v35 fun v36 =>
qSt 1 v36 v34 H fun _ H =>
k [s0, s1, s4, s5, s6, s13, s19, s49, s61, s68] H : R))
noncomputable def r102_9 (C : CallF) (k : KT R) : KT R := fun fr H => opn 10 fr (fun s0 s1 s4 s5 s6 s13 s19 s49 s61 s68 => 
(qRes (C 57 [s0] H) fun v59 H =>
qBld z30 [(0, 1, (.int .i64 9)), (1, 1, v59)] fun v60 =>
qSt 4 s4 v60 H fun _ H =>
k [s0, s1, s4, s5, s6, s13, s19, s49, s61, s68] H : R))
noncomputable def r102_11 (C : CallF) (k : KT R) : KT R := fun fr H => opn 10 fr (fun s0 s1 s4 s5 s6 s13 s19 s49 s61 s68 => 
(qRes (C 132 [s0, (.int .i64 7), (.str [93]), s1, s5] H) fun v67 H =>
qSt 4 s4 v67 H fun _ H =>
k [s0, s1, s4, s5, s6, s13, s19, s49, s61, s68] H : R))
noncomputable def r102_13 (C : CallF) (k : KT R) : KT R := fun fr H => opn 10 fr (fun s0 s1 s4 s5 s6 s13 s19 s49 s61 s68 => 
(qRes (C 132 [s0, (.int .i64 8), (.str [125]), s1, s5] H) fun v74 H =>
qSt 4 s4 v74 H fun _ H =>
k [s0, s1, s4, s5, s6, s13, s19, s49, s61, s68] H : R))
noncomputable def r102_12 (C : CallF) (k : KT R) : KT R := fun fr H => opn 10 fr (fun s0 s1 s4 s5 s6 s13 s19 s49 s61 s68 => 
(qRes (C 48 [s0, (.int .i64 5), (.str [123])] H) fun v70 H =>
k [s0, s1, s4, s5, s6, s13, s19, s49, s61, v70] H : R))
noncomputable def r102_10 (C : CallF) (k : KT R) : KT R := fun fr H => opn 10 fr (fun s0 s1 s4 s5 s6 s13 s19 s49 s61 s68 => 
(qRes (C 48 [s0, (.int .i64 5), (.str [91])] H) fun v63 H =>
k [s0, s1, s4, s5, s6, s13, s19, s49, v63, s68] H : R))
noncomputable def r102_8 (C : CallF) (k : KT R) : KT R := fun fr H => opn 10 fr (fun s0 s1 s4 s5 s6 s13 s19 s49 s61 s68 => 
(qNc s0 fun v51 =>
qFa 4 v51 fun v52 =>
qLd v52 H fun v53 =>
qG v53 true (fun k => k s0 H) H fun v55 H =>
qG v53 true (fun k => qRes (C 48 [v55, (.int .i64 5), (.str [36])] H) k) H fun v56 H =>
qPick v53 v56 (.bool false) fun v57 =>
k [s0, s1, s4, s5, s6, s13, s19, v57, s61, s68] H : R))
noncomputable def r102_5 (k : KT R) : KT R := fun fr H => opn 10 fr (fun s0 s1 s4 s5 s6 s13 s19 s49 s61 s68 => 
(qEql X 3 s6 (.int .i64 2) fun v21 =>
qG v21 false (fun k => k s6 H) H fun v23 H =>
qG v21 false (fun k => qEql X 3 v23 (.int .i64 3) fun v => k v H) H fun v24 H =>
qPick v21 (.bool true) v24 fun v25 =>
qG v25 false (fun k => k s6 H) H fun v27 H =>
qG v25 false (fun k => qEql X 3 v27 (.int .i64 4) fun v => k v H) H fun v28 H =>
qPick v25 (.bool true) v28 fun v29 =>
k [s0, s1, s4, s5, s6, s13, v29, s49, s61, s68] H : R))
noncomputable def r102_3 (k : KT R) : KT R := fun fr H => opn 10 fr (fun s0 s1 s4 s5 s6 s13 s19 s49 s61 s68 => 
(qEql X 3 s6 (.int .i64 1) fun v15 =>
k [s0, s1, s4, s5, s6, v15, s19, s49, s61, s68] H : R))
noncomputable def r102_2 (C : CallF) (k : KT R) : KT R := fun fr H => opn 10 fr (fun s0 s1 s4 s5 s6 s13 s19 s49 s61 s68 => 
(qRes (C 58 [s0] H) fun v12 H =>
k [s0, s1, s4, s5, v12, s13, s19, s49, s61, s68] H : R))
noncomputable def r102_1 (k : KT R) : KT R := fun fr H => opn 10 fr (fun s0 s1 s4 s5 s6 s13 s19 s49 s61 s68 => 
(qNc s0 fun v8 =>
qFa 1 v8 fun v9 =>
qLd v9 H fun v10 =>
k [s0, s1, s4, v10, s6, s13, s19, s49, s61, s68] H : R))
noncomputable def r102_0 (k : KT R) : KT R := fun fr H => opn 10 fr (fun s0 s1 s4 s5 s6 s13 s19 s49 s61 s68 => 
(qNew (.cells z30) .ptr H fun v4 H =>
k [s0, s1, v4, s5, s6, s13, s19, s49, s61, s68] H : R))
noncomputable def c102 (C : CallF) (l0 : List AV) (H : AH) (k : AV → AH → R) : R := opn 2 l0 (fun x0 x1 => (qFn (fun kr => (r102_0 (r102_1 (r102_2 C (qBl (fun k1 => (r102_3 (qCd (sel 5) (fun _ => (r102_4 C kr)) (fun k2 => (r102_5 (qCd (sel 6) (fun _ => (r102_6 (r102_7 kr))) (fun k3 => (r102_8 C (qCd (sel 7) (fun _ => (r102_9 C kr)) (fun k4 => (r102_10 C (qCd (sel 8) (fun _ => (r102_11 C kr)) (fun k5 => (r102_12 C (qCd (sel 9) (fun _ => (r102_13 C kr)) (fun k6 => k6) k5))) k4))) k3))) k2))) k1))) (r102_14 C (r102_15 kr)))))))
(fun fr H => qPtr (sel 2 fr) (qLdA 4 (sel 2 fr) H fun w0 => k w0 H)) [x0, x1, undef, undef, undef, undef, undef, undef, undef, undef] H : R))
/- refectory/refectoryref06.args -/
noncomputable def r103_8 (k : KT R) : KT R := fun fr H => opn 6 fr (fun s0 s2 s3 s4 s7 s22 => 
(k [s0, s3, s3, s4, s7, s22] H : R))
noncomputable def r103_7 (C : CallF) (k : KT R) : KT R := fun fr H => opn 6 fr (fun s0 s2 s3 s4 s7 s22 => 
(qRes (C 102 [s0, (.int .i64 1)] H) fun v30 H =>
qBld z38 [(0, 1, s4), (1, 4, v30)] fun v31 =>
qRows z38 1 [(0, v31)] fun v32 =>
qApp 5 88 s3 v32 false H fun v33 H =>
k [s0, s2, v33, s4, s7, s22] H : R))
noncomputable def r103_6 (C : CallF) (k : KT R) : KT R := fun fr H => opn 6 fr (fun s0 s2 s3 s4 s7 s22 => 
(qRes (C 85 [s0, (.str [58])] H) fun v26 H =>
k [s0, s2, s3, s4, s7, s22] H : R))
noncomputable def r103_5 (C : CallF) (k : KT R) : KT R := fun fr H => opn 6 fr (fun s0 s2 s3 s4 s7 s22 => 
(qRes (C 57 [s0] H) fun v24 H =>
k [s0, s2, s3, v24, s7, s22] H : R))
noncomputable def r103_4 (C : CallF) (k : KT R) : KT R := fun fr H => opn 6 fr (fun s0 s2 s3 s4 s7 s22 => 
(qNc s0 fun v9 =>
qFa 2 v9 fun v10 =>
qLd v10 H fun v11 =>
qEql X 57 v11 (.int .i64 0) fun v12 =>
qG v12 true (fun k => k s3 H) H fun v14 H =>
qG v12 true (fun k => qLenL v14 fun v => k v H) H fun v15 H =>
qG v12 true (fun k => qEql X 3 v15 (.int .i64 0) fun v => k v H) H fun v16 H =>
qG v12 true (fun k => k v16 H) H fun v17 H =>
qG v17 false (fun k => k s0 H) H fun v18 H =>
qG v17 false (fun k => qRes (C 48 [v18, (.int .i64 5), (.str [41])] H) k) H fun v19 H =>
qG v17 false (fun k => qNot v19 fun v => k v H) H fun v20 H =>
qG v12 true (fun k => qPick v17 (.bool true) v20 fun v => k v H) H fun v21 H =>
qPick v12 v21 (.bool false) fun v22 =>
k [s0, s2, s3, s4, s7, v22] H : R))
noncomputable def l103_4 (C : CallF) (k1 : KT R) : KT R → KT R := fun k2 => (r103_4 C (qCd (sel 5) (fun k4 => k4) (fun _ => k1) (qBl (fun k3 => (r103_5 C (r103_6 C (r103_7 C k3)))) k2)))
noncomputable def r103_3 (k : KT R) : KT R := fun fr H => opn 6 fr (fun s0 s2 s3 s4 s7 s22 => 
(k [s0, (.sl [] .nil), s3, s4, s7, s22] H : R))
noncomputable def r103_2 (C : CallF) (k : KT R) : KT R := fun fr H => opn 6 fr (fun s0 s2 s3 s4 s7 s22 => 
(qRes (C 48 [s0, (.int .i64 5), (.str [40])] H) fun v6 H =>
qNot v6 fun v7 =>
k [s0, s2, s3, s4, v7, s22] H : R))
noncomputable def r103_1 (k : KT R) : KT R := fun fr H => opn 6 fr (fun s0 s2 s3 s4 s7 s22 => 
(k [s0, s2, (.sl [] .nil), s4, s7, s22] H : R))
noncomputable def r103_0 (k : KT R) : KT R := fun fr H => opn 6 fr (fun s0 s2 s3 s4 s7 s22 => 
(k [s0, (.sl [] .nil), s3, s4, s7, s22] H : R))
noncomputable def c103 (C : CallF) (l0 : List AV) (H : AH) (k : AV → AH → R) : R := opn 1 l0 (fun x0 => (qFn (fun kr => (r103_0 (r103_1 (r103_2 C (qCd (sel 4) (fun _ => (r103_3 kr)) (fun k5 => k5) (qBl (fun k1 => (qLoop (l103_4 C k1))) (r103_8 kr)))))))
(fun fr H => k (sel 1 fr) H) [x0, undef, undef, undef, undef, undef] H : R))
/- refectory/schema.Kind -/
noncomputable def r104_2 (k : KT R) : KT R := fun fr H => opn 5 fr (fun s0 s1 s2 s4 s5 => 
(qFa 0 s5 fun v13 =>
qLd v13 H fun v14 =>
k [s0, s1, s2, v14, s5] H : R))
noncomputable def r104_1 (C : CallF) (k : KT R) : KT R := fun fr H => opn 5 fr (fun s0 s1 s2 s4 s5 => 
(qLdA 3 s2 H fun v8 =>
qRes (C 126 [v8, s1] H) fun v10 H =>
qExt v10 0 fun v11 =>
qExt v10 1 fun v12 =>
qNew (.cells z110) .ptr H fun v5 H =>
qSt 5 v5 v11 H fun _ H =>
k [s0, s1, s2, s4, v5] H : R))
noncomputable def r104_0 (k : KT R) : KT R := fun fr H => opn 5 fr (fun s0 s1 s2 s4 s5 => 
(qBox s0 H fun v2 H =>
k [s0, s1, v2, (.int .i64 0), s5] H : R))
noncomputable def c104 (C : CallF) (l0 : List AV) (H : AH) (k : AV → AH → R) : R := opn 2 l0 (fun x0 x1 => (qFn (fun kr => (r104_0 (r104_1 C (r104_2 kr))))
(fun fr H => k (sel 3 fr) H) [x0, x1, undef, undef, undef] H : R))
/- slices.IndexFunc[[]refectory/api.Op,refectory/api.Op] -/
noncomputable def r105_7 (k : KT R) : KT R := fun fr H => opn 8 fr (fun s0 s1 s4 s5 s7 s8 s9 s16 => 
(k [s0, s1, (.int .i64 (-1)), s5, s7, s8, s9, s16] H : R))
noncomputable def r105_6 (k : KT R) : KT R := fun fr H => opn 8 fr (fun s0 s1 s4 s5 s7 s8 s9 s16 => 
(qAdd X 3 s8 (.int .i64 1) fun v18 =>
k [s0, s1, s4, s5, s7, v18, s9, s16] H : R))
noncomputable def r105_5 (k : KT R) : KT R := fun fr H => opn 8 fr (fun s0 s1 s4 s5 s7 s8 s9 s16 => 
(k [s0, s1, s5, s5, s7, s8, s9, s16] H : R))
noncomputable def r105_4 (C : CallF) (k : KT R) : KT R := fun fr H => opn 8 fr (fun s0 s1 s4 s5 s7 s8 s9 s16 => 
(qIa 5 s0 s5 fun v14 =>
qLdA 5 v14 H fun v15 =>
qCallV C s1 [v15] H fun v16 H =>
k [s0, s1, s4, s5, s7, s8, s9, v16] H : R))
noncomputable def r105_3 (k : KT R) : KT R := fun fr H => opn 8 fr (fun s0 s1 s4 s5 s7 s8 s9 s16 => 
(k [s0, s1, s4, s8, s7, s8, s9, s16] H : R))
noncomputable def r105_2 (k : KT R) : KT R := fun fr H => opn 8 fr (fun s0 s1 s4 s5 s7 s8 s9 s16 => 
(qLss X 3 s8 s7 fun v9 =>
k [s0, s1, s4, s5, s7, s8, v9, s16] H : R))
noncomputable def l105_5 (C : CallF) (k1 : KT R) (kr : KT R) : KT R → KT R := fun k2 => (r105_2 (qCd (sel 6) (fun k5 => k5) (fun _ => k1) (qBl (fun k3 => (r105_3 (r105_4 C (qCd (sel 7) (fun _ => (r105_5 kr)) (fun k4 => k4) k3)))) (r105_6 k2))))
noncomputable def r105_1 (k : KT R) : KT R := fun fr H => opn 8 fr (fun s0 s1 s4 s5 s7 s8 s9 s16 => 
(qLenL s0 fun v7 =>
k [s0, s1, s4, s5, v7, (.int .i64 0), s9, s16] H : R))
noncomputable def r105_0 (k : KT R) : KT R := fun fr H => opn 8 fr (fun s0 s1 s4 s5 s7 s8 s9 s16 => 
(k [s0, s1, (.int .i64 0), s5, s7, s8, s9, s16] H : R))
noncomputable def c105 (C : CallF) (l0 : List AV) (H : AH) (k : AV → AH → R) : R := opn 2 l0 (fun x0 x1 => (qFn (fun kr => (r105_0 (r105_1 (qBl (fun k1 => (qLoop (l105_5 C k1 kr))) (r105_7 kr)))))
(fun fr H => k (sel 2 fr) H) [x0, x1, undef, undef, undef, undef, undef, undef] H : R))
/- slices.ContainsFunc[[]refectory/api.Sel,refectory/api.Sel] -/
noncomputable def r106_1 (C : CallF) (k : KT R) : KT R := fun fr H => opn 3 fr (fun s0 s1 s4 => 
(qRes (C 133 [s0, s1] H) fun v7 H =>
qGeq X 3 v7 (.int .i64 0) fun v8 =>
k [s0, s1, v8] H : R))
noncomputable def r106_0 (k : KT R) : KT R := fun fr H => opn 3 fr (fun s0 s1 s4 => 
(k [s0, s1, (.bool false)] H : R))
noncomputable def c106 (C : CallF) (l0 : List AV) (H : AH) (k : AV → AH → R) : R := opn 2 l0 (fun x0 x1 => (qFn (fun kr => (r106_0 (r106_1 C kr)))
(fun fr H => k (sel 2 fr) H) [x0, x1, undef] H : R))
/- refectory/frags.on$1 -/
noncomputable def r107_1 (C : CallF) (k : KT R) : KT R := fun fr H => opn 4 fr (fun s0 s1 s2 s3 => 
(qFa 0 s2 fun v4 =>
qLd v4 H fun v5 =>
qEql X 3 v5 (.int .i64 3) fun v6 =>
qG v6 true (fun k => qLd s1 H fun v => k v H) H fun v8 H =>
qG v6 true (fun k => qLdA 7 s2 H fun v => k v H) H fun v9 H =>
qG v6 true (fun k => qCallV C v8 [v9] H k) H fun v10 H =>
qPick v6 v10 (.bool false) fun v11 =>
qG v11 false (fun k => qFa 6 s2 fun v => k v H) H fun v13 H =>
qG v11 false (fun k => qLd v13 H fun v => k v H) H fun v14 H =>
qG v11 false (fun k => qLd s1 H fun v => k v H) H fun v15 H =>
qG v11 false (fun k => qRes (C 66 [v14, v15] H) k) H fun v16 H =>
qPick v11 (.bool true) v16 fun v17 =>
k [s0, s1, s2, v17] H : R))
noncomputable def r107_0 (k : KT R) : KT R := fun fr H => opn 4 fr (fun s0 s1 s2 s3 => 
(qBox s0 H fun v2 H =>
k [s0, s1, v2, (.bool false)] H : R))
noncomputable def c107 (C : CallF) (l0 : List AV) (H : AH) (k : AV → AH → R) : R := opn 2 l0 (fun x0 x1 => (qFn (fun kr => (r107_0 (r107_1 C kr)))
(fun fr H => k (sel 3 fr) H) [x0, x1, undef, undef] H : R))
/- refectory/frags.strange$1 -/
noncomputable def r108_1 (C : CallF) (k : KT R) : KT R := fun fr H => opn 4 fr (fun s0 s1 s2 s4 => 
(qLd s1 H fun v5 =>
qNeq X 9 v5 (.str []) fun v6 =>
qG v6 true (fun k => qLdA 3 s2 H fun v => k v H) H fun v8 H =>
qG v6 true (fun k => k s0 H) H fun v9 H =>
qG v6 true (fun k => qLd s1 H fun v => k v H) H fun v10 H =>
qG v6 true (fun k => qRes (C 109 [v8, v9, v10] H) k) H fun v11 H =>
qG v6 true (fun k => qNot v11 fun v => k v H) H fun v12 H =>
qPick v6 v12 (.bool false) fun v13 =>
k [s0, s1, s2, v13] H : R))
noncomputable def r108_0 (k : KT R) : KT R := fun fr H => opn 4 fr (fun s0 s1 s2 s4 => 
(k [s0, s1, s2, (.bool false)] H : R))
noncomputable def c108 (C : CallF) (l0 : List AV) (H : AH) (k : AV → AH → R) : R := opn 3 l0 (fun x0 x1 x2 => (qFn (fun kr => (r108_0 (r108_1 C kr)))
(fun fr H => k (sel 3 fr) H) [x0, x1, x2, undef] H : R))
/- refectory/schema.Meets -/
noncomputable def r109_2 (C : CallF) (k : KT R) : KT R := fun fr H => opn 6 fr (fun s0 s1 s2 s3 s6 s7 => 
(qLdA 3 s3 H fun v11 =>
qRes (C 93 [v11, s1] H) fun v13 H =>
qRes (C 134 [v13, (.fn (.func 135) [] [s7])] H) fun v15 H =>
k [s0, s1, s2, s3, v15, s7] H : R))
noncomputable def r109_1 (C : CallF) (k : KT R) : KT R := fun fr H => opn 6 fr (fun s0 s1 s2 s3 s6 s7 => 
(qLdA 3 s3 H fun v8 =>
qRes (C 93 [v8, s2] H) fun v10 H =>
qNew (.cells z27) .ptr H fun v7 H =>
qSt 1 v7 v10 H fun _ H =>
k [s0, s1, s2, s3, s6, v7] H : R))
noncomputable def r109_0 (k : KT R) : KT R := fun fr H => opn 6 fr (fun s0 s1 s2 s3 s6 s7 => 
(qBox s0 H fun v3 H =>
k [s0, s1, s2, v3, (.bool false), s7] H : R))
noncomputable def c109 (C : CallF) (l0 : List AV) (H : AH) (k : AV → AH → R) : R := opn 3 l0 (fun x0 x1 x2 => (qFn (fun kr => (r109_0 (r109_1 C (r109_2 C kr))))
(fun fr H => k (sel 4 fr) H) [x0, x1, x2, undef, undef, undef] H : R))
/- refectory/frags.strange$2 -/
noncomputable def r110_10 (C : CallF) (k : KT R) : KT R := fun fr H => opn 14 fr (fun s0 s1 s2 s3 s4 s5 s6 s7 s9 s10 s12 s13 s31 s50 => 
(qLd s4 H fun v57 =>
qFa 3 s5 fun v58 =>
qLd v58 H fun v59 =>
qCallV C v57 [v59] H fun v60 H =>
qG v60 false (fun k => qLdA 3 s1 H fun v => k v H) H fun v62 H =>
qG v60 false (fun k => qLdA 2 s3 H fun v => k v H) H fun v63 H =>
qG v60 false (fun k => qFa 6 s5 fun v => k v H) H fun v64 H =>
qG v60 false (fun k => qLd v64 H fun v => k v H) H fun v65 H =>
qG v60 false (fun k => qFa 3 s5 fun v => k v H) H fun v66 H =>
qG v60 false (fun k => qLd v66 H fun v => k v H) H fun v67 H =>
qG v60 false (fun k => qRes (C 69 [v62, v63, v65, v67] H) k) H fun v68 H =>
qPick v60 (.bool true) v68 fun v69 =>
k [s0, s1, s2, s3, s4, s5, v69, s7, s9, s10, s12, s13, s31, s50] H : R))
noncomputable def r110_9 (C : CallF) (k : KT R) : KT R := fun fr H => opn 14 fr (fun s0 s1 s2 s3 s4 s5 s6 s7 s9 s10 s12 s13 s31 s50 => 
(qLdA 3 s1 H fun v51 =>
qLdA 2 s3 H fun v52 =>
qFa 6 s5 fun v53 =>
qLd v53 H fun v54 =>
qLd s2 H fun v55 =>
qRes (C 69 [v51, v52, v54, v55] H) fun v56 H =>
k [s0, s1, s2, s3, s4, s5, v56, s7, s9, s10, s12, s13, s31, s50] H : R))
noncomputable def r110_8 (k : KT R) : KT R := fun fr H => opn 14 fr (fun s0 s1 s2 s3 s4 s5 s6 s7 s9 s10 s12 s13 s31 s50 => 
(qFa 3 s5 fun v48 =>
qLd v48 H fun v49 =>
qEql X 9 v49 (.str []) fun v50 =>
k [s0, s1, s2, s3, s4, s5, s6, s7, s9, s10, s12, s13, s31, v50] H : R))
noncomputable def r110_4 (C : CallF) (k : KT R) : KT R := fun fr H => opn 14 fr (fun s0 s1 s2 s3 s4 s5 s6 s7 s9 s10 s12 s13 s31 s50 => 
(qLdA 3 s1 H fun v23 =>
qLdA 2 s3 H fun v24 =>
qFa 6 s5 fun v25 =>
qLd v25 H fun v26 =>
qFa 2 s7 fun v27 =>
qFa 0 v27 fun v28 =>
qLd v28 H fun v29 =>
qRes (C 69 [v23, v24, v26, v29] H) fun v30 H =>
k [s0, s1, s2, s3, s4, s5, v30, s7, s9, s10, s12, s13, s31, s50] H : R))
noncomputable def r110_3 (C : CallF) (k : KT R) : KT R := fun fr H => opn 14 fr (fun s0 s1 s2 s3 s4 s5 s6 s7 s9 s10 s12 s13 s31 s50 => 
(qLdA 3 s1 H fun v16 =>
qLd s2 H fun v17 =>
qFa 2 s5 fun v18 =>
qLd v18 H fun v19 =>
qRes (C 111 [v16, v17, v19] H) fun v20 H =>
qExt v20 0 fun v21 =>
qExt v20 1 fun v22 =>
qNew (.cells z117) .ptr H fun v7 H =>
qSt 5 v7 v21 H fun _ H =>
k [s0, s1, s2, s3, s4, s5, s6, v7, s9, s10, s12, s13, s31, s50] H : R))
noncomputable def r110_7 (C : CallF) (k : KT R) : KT R := fun fr H => opn 14 fr (fun s0 s1 s2 s3 s4 s5 s6 s7 s9 s10 s12 s13 s31 s50 => 
(qNot s10 fun v41 =>
qG v41 false (fun k => qLd s4 H fun v => k v H) H fun v43 H =>
qG v41 false (fun k => qFa 1 s9 fun v => k v H) H fun v44 H =>
qG v41 false (fun k => qLd v44 H fun v => k v H) H fun v45 H =>
qG v41 false (fun k => qCallV C v43 [v45] H k) H fun v46 H =>
qPick v41 (.bool true) v46 fun v47 =>
k [s0, s1, s2, s3, s4, s5, v47, s7, s9, s10, s12, s13, s31, s50] H : R))
noncomputable def r110_6 (C : CallF) (k : KT R) : KT R := fun fr H => opn 14 fr (fun s0 s1 s2 s3 s4 s5 s6 s7 s9 s10 s12 s13 s31 s50 => 
(qLdA 2 s3 H fun v34 =>
qFa 2 s5 fun v35 =>
qLd v35 H fun v36 =>
qRes (C 37 [v34, v36] H) fun v37 H =>
qExt v37 0 fun v38 =>
qExt v37 1 fun v39 =>
qNew (.cells z67) .ptr H fun v9 H =>
qSt 4 v9 v38 H fun _ H =>
k [s0, s1, s2, s3, s4, s5, s6, s7, v9, v39, s12, s13, s31, s50] H : R))
noncomputable def r110_5 (k : KT R) : KT R := fun fr H => opn 14 fr (fun s0 s1 s2 s3 s4 s5 s6 s7 s9 s10 s12 s13 s31 s50 => 
(qEql X 3 s12 (.int .i64 2) fun v32 =>
k [s0, s1, s2, s3, s4, s5, s6, s7, s9, s10, s12, s13, v32, s50] H : R))
noncomputable def r110_2 (k : KT R) : KT R := fun fr H => opn 14 fr (fun s0 s1 s2 s3 s4 s5 s6 s7 s9 s10 s12 s13 s31 s50 => 
(qEql X 3 s12 (.int .i64 1) fun v14 =>
k [s0, s1, s2, s3, s4, s5, s6, s7, s9, s10, s12, v14, s31, s50] H : R))
noncomputable def r110_1 (k : KT R) : KT R := fun fr H => opn 14 fr (fun s0 s1 s2 s3 s4 s5 s6 s7 s9 s10 s12 s13 s31 s50 => 
(qFa 0 s5 fun v11 =>
qLd v11 H fun v12 =>
k [s0, s1, s2, s3, s4, s5, s6, s7, s9, s10, v12, s13, s31, s50] H : R))
noncomputable def r110_0 (k : KT R) : KT R := fun fr H => opn 14 fr (fun s0 s1 s2 s3 s4 s5 s6 s7 s9 s10 s12 s13 s31 s50 => 
(qBox s0 H fun v5 H =>
k [s0, s1, s2, s3, s4, v5, (.bool false), s7, s9, s10, s12, s13, s31, s50] H : R))
noncomputable def c110 (C : CallF) (l0 : List AV) (H : AH) (k : AV → AH → R) : R := opn 5 l0 (fun x0 x1 x2 x3 x4 => (qFn (fun kr => (r110_0 (r110_1 (qBl (fun k2 => (r110_2 (qCd (sel 11) (fun _ => (r110_3 C (r110_4 C kr))) (fun k3 => (r110_5 (qCd (sel 12) (fun _ => (r110_6 C (r110_7 C kr))) (fun k4 => k4) k3))) k2))) (r110_8 (qCd (sel 13) (fun _ => (r110_9 C kr)) (fun k1 => k1) (r110_10 C kr)))))))
(fun fr H => k (sel 6 fr) H) [x0, x1, x2, x3, x4, undef, undef, undef, undef, undef, undef, undef, undef, undef] H : R))
/- refectory/schema.Field -/
noncomputable def r111_8 (k : KT R) : KT R := fun fr H => opn 12 fr (fun s0 s1 s2 s3 s5 s6 s7 s8 s10 s11 s35 s47 => 
(qFa 3 s8 fun v49 =>
qLd v49 H fun v50 =>
qIa 5 v50 s11 fun v52 =>
qLdA 5 v52 H fun v53 =>
qSt 5 s6 v53 H fun _ H =>
k [s0, s1, s2, s3, s5, s6, (.bool true), s8, s10, s11, s35, s47] H : R))
noncomputable def r111_7 (k : KT R) : KT R := fun fr H => opn 12 fr (fun s0 s1 s2 s3 s5 s6 s7 s8 s10 s11 s35 s47 => 
(qBld z117 [] fun v48 =>
qSt 5 s6 v48 H fun _ H =>
k [s0, s1, s2, s3, s5, s6, (.bool false), s8, s10, s11, s35, s47] H : R))
noncomputable def r111_6 (k : KT R) : KT R := fun fr H => opn 12 fr (fun s0 s1 s2 s3 s5 s6 s7 s8 s10 s11 s35 s47 => 
(qNot s10 fun v43 =>
qG v43 false (fun k => k s11 H) H fun v45 H =>
qG v43 false (fun k => qLss X 3 v45 (.int .i64 0) fun v => k v H) H fun v46 H =>
qPick v43 (.bool true) v46 fun v47 =>
k [s0, s1, s2, s3, s5, s6, s7, s8, s10, s11, s35, v47] H : R))
noncomputable def r111_5 (C : CallF) (k : KT R) : KT R := fun fr H => opn 12 fr (fun s0 s1 s2 s3 s5 s6 s7 s8 s10 s11 s35 s47 => 
(qFa 3 s8 fun v38 =>
qLd v38 H fun v39 =>
qRes (C 136 [v39, (.fn (.func 137) [] [s5])] H) fun v41 H =>
k [s0, s1, s2, s3, s5, s6, s7, s8, s10, v41, s35, s47] H : R))
noncomputable def r111_4 (k : KT R) : KT R := fun fr H => opn 12 fr (fun s0 s1 s2 s3 s5 s6 s7 s8 s10 s11 s35 s47 => 
(qBld z115 [(0, 1, (.str [83,116,114,105,110,103])), (1, 1, (.str [33]))] fun v36 =>
qBld z117 [(0, 1, (.str [95,95,116,121,112,101,110,97,109,101])), (2, 2, v36), (4, 1, (.int .i64 1))] fun v37 =>
qSt 5 s6 v37 H fun _ H =>
k [s0, s1, s2, s3, s5, s6, (.bool true), s8, s10, s11, s35, s47] H : R))
noncomputable def r111_3 (k : KT R) : KT R := fun fr H => opn 12 fr (fun s0 s1 s2 s3 s5 s6 s7 s8 s10 s11 s35 s47 => 
(qLd s5 H fun v26 =>
qEql X 9 v26 (.str [95,95,116,121,112,101,110,97,109,101]) fun v27 =>
qG v27 true (fun k => k s10 H) H fun v29 H =>
qG v27 true (fun k => k v29 H) H fun v30 H =>
qG v30 false (fun k => qFa 0 s8 fun v => k v H) H fun v31 H =>
qG v30 false (fun k => qLd v31 H fun v => k v H) H fun v32 H =>
qG v30 false (fun k => qEql X 3 v32 (.int .i64 4) fun v => k v H) H fun v33 H =>
qG v27 true (fun k => qPick v30 (.bool true) v33 fun v => k v H) H fun v34 H =>
qPick v27 v34 (.bool false) fun v35 =>
k [s0, s1, s2, s3, s5, s6, s7, s8, s10, s11, v35, s47] H : R))
noncomputable def r111_2 (k : KT R) : KT R := fun fr H => opn 12 fr (fun s0 s1 s2 s3 s5 s6 s7 s8 s10 s11 s35 s47 => 
(qFa 0 s8 fun v18 =>
qLd v18 H fun v19 =>
qEql X 3 v19 (.int .i64 2) fun v20 =>
qG v20 false (fun k => qFa 0 s8 fun v => k v H) H fun v22 H =>
qG v20 false (fun k => qLd v22 H fun v => k v H) H fun v23 H =>
qG v20 false (fun k => qEql X 3 v23 (.int .i64 3) fun v => k v H) H fun v24 H =>
qPick v20 (.bool true) v24 fun v25 =>
k [s0, s1, s2, s3, s5, s6, s7, s8, v25, s11, s35, s47] H : R))
noncomputable def r111_1 (C : CallF) (k : KT R) : KT R := fun fr H => opn 12 fr (fun s0 s1 s2 s3 s5 s6 s7 s8 s10 s11 s35 s47 => 
(qLdA 3 s3 H fun v13 =>
qRes (C 126 [v13, s1] H) fun v15 H =>
qExt v15 0 fun v16 =>
qExt v15 1 fun v17 =>
qNew (.cells z110) .ptr H fun v8 H =>
qSt 5 v8 v16 H fun _ H =>
k [s0, s1, s2, s3, s5, s6, s7, v8, s10, s11, s35, s47] H : R))
noncomputable def r111_0 (k : KT R) : KT R := fun fr H => opn 12 fr (fun s0 s1 s2 s3 s5 s6 s7 s8 s10 s11 s35 s47 => 
(qBox s0 H fun v3 H =>
qBox s2 H fun v5 H =>
qNew (.cells z117) .ptr H fun v6 H =>
k [s0, s1, s2, v3, v5, v6, (.bool false), s8, s10, s11, s35, s47] H : R))
noncomputable def c111 (C : CallF) (l0 : List AV) (H : AH) (k : AV → AH → R) : R := opn 3 l0 (fun x0 x1 x2 => (qFn (fun kr => (r111_0 (r111_1 C (r111_2 (r111_3 (qCd (sel 10) (fun _ => (r111_4 kr)) (fun k2 => k2) (r111_5 C (r111_6 (qCd (sel 11) (fun _ => (r111_7 kr)) (fun k1 => k1) (r111_8 kr))))))))))
(fun fr H => qPtr (sel 5 fr) (qLdA 5 (sel 5 fr) H fun w0 => k (.tup [w0, (sel 6 fr)]) H)) [x0, x1, x2, undef, undef, undef, undef, undef, undef, undef, undef, undef] H : R))
/- slices.Index[[]string,string] -/
noncomputable def r112_7 (k : KT R) : KT R := fun fr H => opn 8 fr (fun s0 s1 s4 s5 s7 s8 s9 s16 => 
(k [s0, s1, (.int .i64 (-1)), s5, s7, s8, s9, s16] H : R))
noncomputable def r112_6 (k : KT R) : KT R := fun fr H => opn 8 fr (fun s0 s1 s4 s5 s7 s8 s9 s16 => 
(qAdd X 3 s8 (.int .i64 1) fun v18 =>
k [s0, s1, s4, s5, s7, v18, s9, s16] H : R))
noncomputable def r112_5 (k : KT R) : KT R := fun fr H => opn 8 fr (fun s0 s1 s4 s5 s7 s8 s9 s16 => 
(k [s0, s1, s5, s5, s7, s8, s9, s16] H : R))
noncomputable def r112_4 (k : KT R) : KT R := fun fr H => opn 8 fr (fun s0 s1 s4 s5 s7 s8 s9 s16 => 
(qIa 1 s0 s5 fun v14 =>
qLd v14 H fun v15 =>
qEql X 9 s1 v15 fun v16 =>
k [s0, s1, s4, s5, s7, s8, s9, v16] H : R))
noncomputable def r112_3 (k : KT R) : KT R := fun fr H => opn 8 fr (fun s0 s1 s4 s5 s7 s8 s9 s16 => 
(k [s0, s1, s4, s8, s7, s8, s9, s16] H : R))
noncomputable def r112_2 (k : KT R) : KT R := fun fr H => opn 8 fr (fun s0 s1 s4 s5 s7 s8 s9 s16 => 
(qLss X 3 s8 s7 fun v9 =>
k [s0, s1, s4, s5, s7, s8, v9, s16] H : R))
noncomputable def l112_5 (k1 : KT R) (kr : KT R) : KT R → KT R := fun k2 => (r112_2 (qCd (sel 6) (fun k5 => k5) (fun _ => k1) (qBl (fun k3 => (r112_3 (r112_4 (qCd (sel 7) (fun _ => (r112_5 kr)) (fun k4 => k4) k3)))) (r112_6 k2))))
noncomputable def r112_1 (k : KT R) : KT R := fun fr H => opn 8 fr (fun s0 s1 s4 s5 s7 s8 s9 s16 => 
(qLenL s0 fun v7 =>
k [s0, s1, s4, s5, v7, (.int .i64 0), s9, s16] H : R))
noncomputable def r112_0 (k : KT R) : KT R := fun fr H => opn 8 fr (fun s0 s1 s4 s5 s7 s8 s9 s16 => 
(k [s0, s1, (.int .i64 0), s5, s7, s8, s9, s16] H : R))
noncomputable def c112 (C : CallF) (l0 : List AV) (H : AH) (k : AV → AH → R) : R := opn 2 l0 (fun x0 x1 => (qFn (fun kr => (r112_0 (r112_1 (qBl (fun k1 => (qLoop (l112_5 k1 kr))) (r112_7 kr)))))
(fun fr H => k (sel 2 fr) H) [x0, x1, undef, undef, undef, undef, undef, undef] H : R))
/- (*refectory/refectorylaw00.G).use -/
noncomputable def r113_7 (k : KT R) : KT R := fun fr H => opn 10 fr (fun s0 s1 s2 s3 s6 s7 s8 s9 s16 s28 => 
(qBld z30 [(0, 1, (.int .i64 9)), (1, 1, s1)] fun v45 =>
qSt 4 s8 v45 H fun _ H =>
k [s0, s1, s2, s3, s6, s7, s8, s9, s16, s28] H : R))
noncomputable def r113_6 (k : KT R) : KT R := fun fr H => opn 10 fr (fun s0 s1 s2 s3 s6 s7 s8 s9 s16 s28 => 
(qNc s0 fun v33 =>
qFa 5 v33 fun v34 =>
qLd v34 H fun v35 =>
qLdA 2 s6 H fun v37 =>
qLdA 4 s7 H fun v38 =>
qBld z182 [(0, 1, s1), (1, 2, v37), (3, 4, v38)] fun v39 =>
qRows z182 1 [(0, v39)] fun v40 =>
qApp 7 120 v35 v40 false H fun v41 H =>
qNc s0 fun v42 =>
qFa 5 v42 fun v43 =>
qSt 1 v43 v41 H fun _ H =>
k [s0, s1, s2, s3, s6, s7, s8, s9, s16, s28] H : R))
noncomputable def r113_3 (k : KT R) : KT R := fun fr H => opn 10 fr (fun s0 s1 s2 s3 s6 s7 s8 s9 s16 s28 => 
(qAdd X 3 s9 (.int .i64 1) fun v18 =>
k [s0, s1, s2, s3, s6, s7, s8, v18, s16, s28] H : R))
noncomputable def r113_5 (k : KT R) : KT R := fun fr H => opn 10 fr (fun s0 s1 s2 s3 s6 s7 s8 s9 s16 s28 => 
(qBld z30 [(0, 1, (.int .i64 9)), (1, 1, s1)] fun v30 =>
qSt 4 s8 v30 H fun _ H =>
k [s0, s1, s2, s3, s6, s7, s8, s9, s16, s28] H : R))
noncomputable def r113_4 (k : KT R) : KT R := fun fr H => opn 10 fr (fun s0 s1 s2 s3 s6 s7 s8 s9 s16 s28 => 
(qNc s0 fun v20 =>
qFa 5 v20 fun v21 =>
qLd v21 H fun v22 =>
qIa 7 v22 s9 fun v24 =>
qFa 0 v24 fun v25 =>
qLd v25 H fun v26 =>
qEql X 9 v26 s1 fun v28 =>
k [s0, s1, s2, s3, s6, s7, s8, s9, s16, v28] H : R))
noncomputable def r113_2 (k : KT R) : KT R := fun fr H => opn 10 fr (fun s0 s1 s2 s3 s6 s7 s8 s9 s16 s28 => 
(qNc s0 fun v12 =>
qFa 5 v12 fun v13 =>
qLd v13 H fun v14 =>
qLenL v14 fun v15 =>
qLss X 3 s9 v15 fun v16 =>
k [s0, s1, s2, s3, s6, s7, s8, s9, v16, s28] H : R))
noncomputable def l113_5 (k1 : KT R) (kr : KT R) : KT R → KT R := fun k2 => (r113_2 (qCd (sel 8) (fun k5 => k5) (fun _ => k1) (qBl (fun k3 => (r113_4 (qCd (sel 9) (fun _ => (r113_5 kr)) (fun k4 => k4) k3))) (r113_3 k2))))
noncomputable def r113_1 (k : KT R) : KT R := fun fr H => opn 10 fr (fun s0 s1 s2 s3 s6 s7 s8 s9 s16 s28 => 
(k [s0, s1, s2, s3, s6, s7, s8, (.int .i64 0), s16, s28] H : R))
noncomputable def r113_0 (k : KT R) : KT R := fun fr H => opn 10 fr (fun s0 s1 s2 s3 s6 s7 s8 s9 s16 s28 => 
(qBox s2 H fun v6 H =>
qBox s3 H fun v7 H =>
qNew (.cells z30) .ptr H fun v8 H =>
k [s0, s1, s2, s3, v6, v7, v8, s9, s16, s28] H : R))
noncomputable def c113 (C : CallF) (l0 : List AV) (H : AH) (k : AV → AH → R) : R := opn 4 l0 (fun x0 x1 x2 x3 => (qFn (fun kr => (r113_0 (r113_1 (qBl (fun k1 => (qLoop (l113_5 k1 kr))) (r113_6 (r113_7 kr))))))
(fun fr H => qPtr (sel 6 fr) (qLdA 4 (sel 6 fr) H fun w0 => k w0 H)) [x0, x1, x2, x3, undef, undef, undef, undef, undef, undef] H : R))
/- refectory/refectoryref09.Last -/
noncomputable def r114_3 (k : KT R) : KT R := fun fr H => opn 4 fr (fun s0 s1 s2 s5 => 
(qFa 1 s1 fun v6 =>
qLd v6 H fun v7 =>
qFa 1 s1 fun v8 =>
qLd v8 H fun v9 =>
qLenS v9 fun v10 =>
qSub X 3 v10 (.int .i64 1) fun v11 =>
qIx v7 v11 fun v12 =>
k [s0, s1, v12, s5] H : R))
noncomputable def r114_2 (k : KT R) : KT R := fun fr H => opn 4 fr (fun s0 s1 s2 s5 => 
(k [s0, s1, (.int .u8 0), s5] H : R))
noncomputable def r114_1 (k : KT R) : KT R := fun fr H => opn 4 fr (fun s0 s1 s2 s5 => 
(qFa 1 s1 fun v3 =>
qLd v3 H fun v4 =>
qEql X 9 v4 (.str []) fun v5 =>
k [s0, s1, s2, v5] H : R))
noncomputable def r114_0 (k : KT R) : KT R := fun fr H => opn 4 fr (fun s0 s1 s2 s5 => 
(qBox s0 H fun v1 H =>
k [s0, v1, (.int .u8 0), s5] H : R))
noncomputable def c114 (C : CallF) (l0 : List AV) (H : AH) (k : AV → AH → R) : R := opn 1 l0 (fun x0 => (qFn (fun kr => (r114_0 (r114_1 (qCd (sel 3) (fun _ => (r114_2 kr)) (fun k1 => k1) (r114_3 kr)))))
(fun fr H => k (sel 2 fr) H) [x0, undef, undef, undef] H : R))
/- (*refectory/refectorylaw00.G).Value -/
noncomputable def r115_28 (C : CallF) (k : KT R) : KT R := fun fr H => opn 21 fr (fun s0 s1 s2 s4 s6 s7 s8 s9 s10 s12 s13 s25 s35 s50 s55 s80 s100 s109 s124 s152 s165 => 
(qBld z219 [(0, 1, (.str [])), (1, 1, (.str [97])), (2, 1, (.str [98,34,99])), (3, 1, (.str [195,169,10]))] fun v174 =>
qRes (C 39 [s0, (.int .i64 4)] H) fun v176 H =>
qO (indexOf X 219 v174 v176) fun v177 =>
qBld z30 [(0, 1, (.int .i64 5)), (1, 1, v177)] fun v178 =>
qSt 4 s6 v178 H fun _ H =>
k [s0, s1, s2, s4, s6, s7, s8, s9, s10, s12, s13, s25, s35, s50, s55, s80, s100, s109, s124, s152, s165] H : R))
noncomputable def r115_15 (C : CallF) (k : KT R) : KT R := fun fr H => opn 21 fr (fun s0 s1 s2 s4 s6 s7 s8 s9 s10 s12 s13 s25 s35 s50 s55 s80 s100 s109 s124 s152 s165 => 
(qFa 2 s10 fun v90 =>
qLd v90 H fun v91 =>
qFa 2 s10 fun v93 =>
qLd v93 H fun v94 =>
qLenL v94 fun v95 =>
qRes (C 39 [s0, v95] H) fun v96 H =>
qLd v90 H fun w => qSame v91 w (qIa 1 v91 v96 fun v97 =>
qLd v97 H fun v98 =>
qBld z30 [(0, 1, (.int .i64 6)), (1, 1, v98)] fun v99 =>
qSt 4 s6 v99 H fun _ H =>
k [s0, s1, s2, s4, s6, s7, s8, s9, s10, s12, s13, s25, s35, s50, s55, s80, s100, s109, s124, s152, s165] H) : R))
noncomputable def r115_23 (k : KT R) : KT R := fun fr H => opn 21 fr (fun s0 s1 s2 s4 s6 s7 s8 s9 s10 s12 s13 s25 s35 s50 s55 s80 s100 s109 s124 s152 s165 => 
(qLdA 4 s12 H fun v151 =>
qSt 4 s6 v151 H fun _ H =>
k [s0, s1, s2, s4, s6, s7, s8, s9, s10, s12, s13, s25, s35, s50, s55, s80, s100, s109, s124, s152, s165] H : R))
noncomputable def r115_20 (k : KT R) : KT R := fun fr H => opn 21 fr (fun s0 s1 s2 s4 s6 s7 s8 s9 s10 s12 s13 s25 s35 s50 s55 s80 s100 s109 s124 s152 s165 => 
(qAdd X 3 s13 (.int .i64 1) fun v111 =>
k [s0, s1, s2, s4, s6, s7, s8, s9, s10, s12, v111, s25, s35, s50, s55, s80, s100, s109, s124, s152, s165] H : R))
noncomputable def r115_22 (C : CallF) (k : KT R) : KT R := fun fr H => opn 21 fr (fun s0 s1 s2 s4 s6 s7 s8 s9 s10 s12 s13 s25 s35 s50 s55 s80 s100 s109 s124 s152 s165 => 
(qFa 2 s12 fun v125 =>
qLd v125 H fun v126 =>
qFa 4 s10 fun v127 =>
qLd v127 H fun v128 =>
qIa 7 v128 s13 fun v130 =>
qFa 0 v130 fun v131 =>
qLd v131 H fun v132 =>
qRows z9 1 [(0, v132)] fun v133 =>
qFa 3 s12 fun v135 =>
qLd v135 H fun v136 =>
qFa 4 s10 fun v138 =>
qLd v138 H fun v139 =>
qIa 7 v139 s13 fun v141 =>
qFa 1 v141 fun v142 =>
qLdA 2 v142 H fun v143 =>
qAdd X 3 s2 (.int .i64 1) fun v145 =>
qApp 1 16 v126 v133 false H fun v134 H =>
qLdA 2 v142 H fun w => qSame v143 w (qLd v138 H fun w => qSame v139 w (qLd v135 H fun w => qSame v136 w (qFa 2 s12 fun v149 =>
qRes (C 115 [s0, v143, v145] H) fun v146 H =>
qLd v135 H fun w => qSame v136 w (qRows z30 1 [(0, v146)] fun v147 =>
qApp 4 72 v136 v147 false H fun v148 H =>
qSt 1 v149 v134 H fun _ H =>
qFa 3 s12 fun v150 =>
qSt 1 v150 v148 H fun _ H =>
k [s0, s1, s2, s4, s6, s7, s8, s9, s10, s12, s13, s25, s35, s50, s55, s80, s100, s109, s124, s152, s165] H)))) : R))
noncomputable def r115_21 (C : CallF) (k : KT R) : KT R := fun fr H => opn 21 fr (fun s0 s1 s2 s4 s6 s7 s8 s9 s10 s12 s13 s25 s35 s50 s55 s80 s100 s109 s124 s152 s165 => 
(qFa 4 s10 fun v112 =>
qLd v112 H fun v113 =>
qIa 7 v113 s13 fun v115 =>
qFa 1 v115 fun v116 =>
qLdA 2 v116 H fun v117 =>
qRes (C 114 [v117] H) fun v118 H =>
qEql X 5 v118 (.int .u8 33) fun v119 =>
qG v119 false (fun k => k s0 H) H fun v121 H =>
qG v119 false (fun k => qRes (C 39 [v121, (.int .i64 3)] H) k) H fun v122 H =>
qG v119 false (fun k => qEql X 3 v122 (.int .i64 0) fun v => k v H) H fun v123 H =>
qPick v119 (.bool true) v123 fun v124 =>
k [s0, s1, s2, s4, s6, s7, s8, s9, s10, s12, s13, s25, s35, s50, s55, s80, s100, s109, v124, s152, s165] H : R))
noncomputable def r115_19 (k : KT R) : KT R := fun fr H => opn 21 fr (fun s0 s1 s2 s4 s6 s7 s8 s9 s10 s12 s13 s25 s35 s50 s55 s80 s100 s109 s124 s152 s165 => 
(qFa 4 s10 fun v106 =>
qLd v106 H fun v107 =>
qLenL v107 fun v108 =>
qLss X 3 s13 v108 fun v109 =>
k [s0, s1, s2, s4, s6, s7, s8, s9, s10, s12, s13, s25, s35, s50, s55, s80, s100, v109, s124, s152, s165] H : R))
noncomputable def l115_8 (C : CallF) (k4 : KT R) : KT R → KT R := fun k5 => (r115_19 (qCd (sel 17) (fun k8 => k8) (fun _ => k4) (qBl (fun k6 => (r115_21 C (qCd (sel 18) (fun k7 => (r115_22 C k7)) (fun k7 => k7) k6))) (r115_20 k5))))
noncomputable def r115_18 (k : KT R) : KT R := fun fr H => opn 21 fr (fun s0 s1 s2 s4 s6 s7 s8 s9 s10 s12 s13 s25 s35 s50 s55 s80 s100 s109 s124 s152 s165 => 
(k [s0, s1, s2, s4, s6, s7, s8, s9, s10, s12, (.int .i64 0), s25, s35, s50, s55, s80, s100, s109, s124, s152, s165] H : R))
noncomputable def r115_17 (k : KT R) : KT R := fun fr H => opn 21 fr (fun s0 s1 s2 s4 s6 s7 s8 s9 s10 s12 s13 s25 s35 s50 s55 s80 s100 s109 s124 s152 s165 => 
(qBld z30 [(0, 1, (.int .i64 8))] fun v104 =>
qNew (.cells z30) .ptr H fun v12 H =>
qSt 4 v12 v104 H fun _ H =>
k [s0, s1, s2, s4, s6, s7, s8, s9, s10, v12, s13, s25, s35, s50, s55, s80, s100, s109, s124, s152, s165] H : R))
noncomputable def r115_25 (C : CallF) (k : KT R) : KT R := fun fr H => opn 21 fr (fun s0 s1 s2 s4 s6 s7 s8 s9 s10 s12 s13 s25 s35 s50 s55 s80 s100 s109 s124 s152 s165 => 
(qRes (C 39 [s0, (.int .i64 50)] H) fun v162 H =>
qSub X 3 v162 (.int .i64 10) fun v163 =>
qRes (C 140 [v163] H) fun v164 H =>
qSt 4 s6 v164 H fun _ H =>
k [s0, s1, s2, s4, s6, s7, s8, s9, s10, s12, s13, s25, s35, s50, s55, s80, s100, s109, s124, s152, s165] H : R))
noncomputable def r115_27 (C : CallF) (k : KT R) : KT R := fun fr H => opn 21 fr (fun s0 s1 s2 s4 s6 s7 s8 s9 s10 s12 s13 s25 s35 s50 s55 s80 s100 s109 s124 s152 s165 => 
(qBld z191 [(0, 1, (.str [116,114,117,101])), (1, 1, (.str [102,97,108,115,101]))] fun v169 =>
qRes (C 39 [s0, (.int .i64 2)] H) fun v171 H =>
qO (indexOf X 191 v169 v171) fun v172 =>
qBld z30 [(0, 1, (.int .i64 2)), (1, 1, v172)] fun v173 =>
qSt 4 s6 v173 H fun _ H =>
k [s0, s1, s2, s4, s6, s7, s8, s9, s10, s12, s13, s25, s35, s50, s55, s80, s100, s109, s124, s152, s165] H : R))
noncomputable def r115_26 (k : KT R) : KT R := fun fr H => opn 21 fr (fun s0 s1 s2 s4 s6 s7 s8 s9 s10 s12 s13 s25 s35 s50 s55 s80 s100 s109 s124 s152 s165 => 
(qFa 0 s7 fun v166 =>
qLd v166 H fun v167 =>
qEql X 9 v167 (.str [66,111,111,108,101,97,110]) fun v168 =>
k [s0, s1, s2, s4, s6, s7, s8, s9, s10, s12, s13, s25, s35, s50, s55, s80, s100, s109, s124, s152, v168] H : R))
noncomputable def r115_24 (k : KT R) : KT R := fun fr H => opn 21 fr (fun s0 s1 s2 s4 s6 s7 s8 s9 s10 s12 s13 s25 s35 s50 s55 s80 s100 s109 s124 s152 s165 => 
(qFa 0 s7 fun v153 =>
qLd v153 H fun v154 =>
qEql X 9 v154 (.str [73,110,116]) fun v155 =>
qG v155 false (fun k => qFa 0 s7 fun v => k v H) H fun v157 H =>
qG v155 false (fun k => qLd v157 H fun v => k v H) H fun v158 H =>
qG v155 false (fun k => qEql X 9 v158 (.str [70,108,111,97,116]) fun v => k v H) H fun v159 H =>
qPick v155 (.bool true) v159 fun v160 =>
k [s0, s1, s2, s4, s6, s7, s8, s9, s10, s12, s13, s25, s35, s50, s55, s80, s100, s109, s124, v160, s165] H : R))
noncomputable def r115_16 (k : KT R) : KT R := fun fr H => opn 21 fr (fun s0 s1 s2 s4 s6 s7 s8 s9 s10 s12 s13 s25 s35 s50 s55 s80 s100 s109 s124 s152 s165 => 
(qFa 0 s10 fun v101 =>
qLd v101 H fun v102 =>
qEql X 3 v102 (.int .i64 6) fun v103 =>
k [s0, s1, s2, s4, s6, s7, s8, s9, s10, s12, s13, s25, s35, s50, s55, s80, v103, s109, s124, s152, s165] H : R))
noncomputable def r115_14 (k : KT R) : KT R := fun fr H => opn 21 fr (fun s0 s1 s2 s4 s6 s7 s8 s9 s10 s12 s13 s25 s35 s50 s55 s80 s100 s109 s124 s152 s165 => 
(qFa 0 s10 fun v81 =>
qLd v81 H fun v82 =>
qEql X 3 v82 (.int .i64 5) fun v83 =>
qG v83 true (fun k => qFa 2 s10 fun v => k v H) H fun v85 H =>
qG v83 true (fun k => qLd v85 H fun v => k v H) H fun v86 H =>
qG v83 true (fun k => qLenL v86 fun v => k v H) H fun v87 H =>
qG v83 true (fun k => qGtr X 3 v87 (.int .i64 0) fun v => k v H) H fun v88 H =>
qPick v83 v88 (.bool false) fun v89 =>
k [s0, s1, s2, s4, s6, s7, s8, s9, s10, s12, s13, s25, s35, s50, s55, v89, s100, s109, s124, s152, s165] H : R))
noncomputable def r115_13 (C : CallF) (k : KT R) : KT R := fun fr H => opn 21 fr (fun s0 s1 s2 s4 s6 s7 s8 s9 s10 s12 s13 s25 s35 s50 s55 s80 s100 s109 s124 s152 s165 => 
(qNc s0 fun v72 =>
qFa 2 v72 fun v73 =>
qLdA 3 v73 H fun v74 =>
qFa 0 s7 fun v75 =>
qLd v75 H fun v76 =>
qNew (.cells z110) .ptr H fun v10 H =>
qRes (C 42 [v74, v76] H) fun v77 H =>
qKeep z110 v10 H (qExt v77 0 fun v78 =>
qExt v77 1 fun v79 =>
qSt 5 v10 v78 H fun _ H =>
k [s0, s1, s2, s4, s6, s7, s8, s9, v10, s12, s13, s25, s35, s50, s55, s80, s100, s109, s124, s152, s165] H) : R))
noncomputable def r115_12 (k : KT R) : KT R := fun fr H => opn 21 fr (fun s0 s1 s2 s4 s6 s7 s8 s9 s10 s12 s13 s25 s35 s50 s55 s80 s100 s109 s124 s152 s165 => 
(qLdA 4 s8 H fun v69 =>
qSt 4 s6 v69 H fun _ H =>
k [s0, s1, s2, s4, s6, s7, s8, s9, s10, s12, s13, s25, s35, s50, s55, s80, s100, s109, s124, s152, s165] H : R))
noncomputable def r115_10 (k : KT R) : KT R := fun fr H => opn 21 fr (fun s0 s1 s2 s4 s6 s7 s8 s9 s10 s12 s13 s25 s35 s50 s55 s80 s100 s109 s124 s152 s165 => 
(qSub X 3 s9 (.int .i64 1) fun v57 =>
k [s0, s1, s2, s4, s6, s7, s8, v57, s10, s12, s13, s25, s35, s50, s55, s80, s100, s109, s124, s152, s165] H : R))
noncomputable def r115_11 (C : CallF) (k : KT R) : KT R := fun fr H => opn 21 fr (fun s0 s1 s2 s4 s6 s7 s8 s9 s10 s12 s13 s25 s35 s50 s55 s80 s100 s109 s124 s152 s165 => 
(qFa 3 s8 fun v58 =>
qLd v58 H fun v59 =>
qLdA 2 s7 H fun v61 =>
qAdd X 3 s2 (.int .i64 1) fun v64 =>
qRes (C 139 [v61] H) fun v62 H =>
qLd v58 H fun w => qSame v59 w (qRes (C 115 [s0, v62, v64] H) fun v65 H =>
qLd v58 H fun w => qSame v59 w (qRows z30 1 [(0, v65)] fun v66 =>
qApp 4 72 v59 v66 false H fun v67 H =>
qFa 3 s8 fun v68 =>
qSt 1 v68 v67 H fun _ H =>
k [s0, s1, s2, s4, s6, s7, s8, s9, s10, s12, s13, s25, s35, s50, s55, s80, s100, s109, s124, s152, s165] H)) : R))
noncomputable def r115_9 (k : KT R) : KT R := fun fr H => opn 21 fr (fun s0 s1 s2 s4 s6 s7 s8 s9 s10 s12 s13 s25 s35 s50 s55 s80 s100 s109 s124 s152 s165 => 
(qGtr X 3 s9 (.int .i64 0) fun v55 =>
k [s0, s1, s2, s4, s6, s7, s8, s9, s10, s12, s13, s25, s35, s50, v55, s80, s100, s109, s124, s152, s165] H : R))
noncomputable def l115_15 (C : CallF) (k12 : KT R) : KT R → KT R := fun k13 => (r115_9 (qCd (sel 14) (fun k15 => k15) (fun _ => k12) (qBl (fun k14 => (r115_11 C k14)) (r115_10 k13))))
noncomputable def r115_8 (C : CallF) (k : KT R) : KT R := fun fr H => opn 21 fr (fun s0 s1 s2 s4 s6 s7 s8 s9 s10 s12 s13 s25 s35 s50 s55 s80 s100 s109 s124 s152 s165 => 
(qRes (C 39 [s0, (.int .i64 3)] H) fun v53 H =>
k [s0, s1, s2, s4, s6, s7, s8, v53, s10, s12, s13, s25, s35, s50, s55, s80, s100, s109, s124, s152, s165] H : R))
noncomputable def r115_7 (k : KT R) : KT R := fun fr H => opn 21 fr (fun s0 s1 s2 s4 s6 s7 s8 s9 s10 s12 s13 s25 s35 s50 s55 s80 s100 s109 s124 s152 s165 => 
(qBld z30 [(0, 1, (.int .i64 7))] fun v51 =>
qNew (.cells z30) .ptr H fun v8 H =>
qSt 4 v8 v51 H fun _ H =>
k [s0, s1, s2, s4, s6, s7, v8, s9, s10, s12, s13, s25, s35, s50, s55, s80, s100, s109, s124, s152, s165] H : R))
noncomputable def r115_6 (C : CallF) (k : KT R) : KT R := fun fr H => opn 21 fr (fun s0 s1 s2 s4 s6 s7 s8 s9 s10 s12 s13 s25 s35 s50 s55 s80 s100 s109 s124 s152 s165 => 
(qLdA 2 s7 H fun v48 =>
qRes (C 114 [v48] H) fun v49 H =>
qEql X 5 v49 (.int .u8 93) fun v50 =>
k [s0, s1, s2, s4, s6, s7, s8, s9, s10, s12, s13, s25, s35, v50, s55, s80, s100, s109, s124, s152, s165] H : R))
noncomputable def r115_5 (C : CallF) (k : KT R) : KT R := fun fr H => opn 21 fr (fun s0 s1 s2 s4 s6 s7 s8 s9 s10 s12 s13 s25 s35 s50 s55 s80 s100 s109 s124 s152 s165 => 
(qFa 1 s4 fun v37 =>
qLd v37 H fun v38 =>
qLenS v38 fun v39 =>
qFa 0 s4 fun v42 =>
qLd v42 H fun v43 =>
qLdA 2 s4 H fun v45 =>
qBld z30 [] fun v46 =>
qRes (C 17 [v39] H) fun v40 H =>
qLdA 2 s4 H fun w => qSame v45 w (qLd v42 H fun w => qSame v43 w (qAdd X 9 (.str [118]) v40 fun v41 =>
qAdd X 9 v41 v43 fun v44 =>
qRes (C 113 [s0, v44, v45, v46] H) fun v47 H =>
qSt 4 s6 v47 H fun _ H =>
k [s0, s1, s2, s4, s6, s7, s8, s9, s10, s12, s13, s25, s35, s50, s55, s80, s100, s109, s124, s152, s165] H)) : R))
noncomputable def r115_4 (C : CallF) (k : KT R) : KT R := fun fr H => opn 21 fr (fun s0 s1 s2 s4 s6 s7 s8 s9 s10 s12 s13 s25 s35 s50 s55 s80 s100 s109 s124 s152 s165 => 
(qEql X 3 s2 (.int .i64 0) fun v30 =>
qG v30 true (fun k => k s0 H) H fun v32 H =>
qG v30 true (fun k => qRes (C 39 [v32, (.int .i64 3)] H) k) H fun v33 H =>
qG v30 true (fun k => qEql X 3 v33 (.int .i64 0) fun v => k v H) H fun v34 H =>
qPick v30 v34 (.bool false) fun v35 =>
k [s0, s1, s2, s4, s6, s7, s8, s9, s10, s12, s13, s25, v35, s50, s55, s80, s100, s109, s124, s152, s165] H : R))
noncomputable def r115_3 (C : CallF) (k : KT R) : KT R := fun fr H => opn 21 fr (fun s0 s1 s2 s4 s6 s7 s8 s9 s10 s12 s13 s25 s35 s50 s55 s80 s100 s109 s124 s152 s165 => 
(qLdA 2 s4 H fun v27 =>
qRes (C 138 [v27] H) fun v28 H =>
qNew (.cells z115) .ptr H fun v7 H =>
qSt 2 v7 v28 H fun _ H =>
k [s0, s1, s2, s4, s6, v7, s8, s9, s10, s12, s13, s25, s35, s50, s55, s80, s100, s109, s124, s152, s165] H : R))
noncomputable def r115_2 (k : KT R) : KT R := fun fr H => opn 21 fr (fun s0 s1 s2 s4 s6 s7 s8 s9 s10 s12 s13 s25 s35 s50 s55 s80 s100 s109 s124 s152 s165 => 
(qBld z30 [(0, 1, (.int .i64 1))] fun v26 =>
qSt 4 s6 v26 H fun _ H =>
k [s0, s1, s2, s4, s6, s7, s8, s9, s10, s12, s13, s25, s35, s50, s55, s80, s100, s109, s124, s152, s165] H : R))
noncomputable def r115_1 (C : CallF) (k : KT R) : KT R := fun fr H => opn 21 fr (fun s0 s1 s2 s4 s6 s7 s8 s9 s10 s12 s13 s25 s35 s50 s55 s80 s100 s109 s124 s152 s165 => 
(qLdA 2 s4 H fun v14 =>
qRes (C 114 [v14] H) fun v15 H =>
qNeq X 5 v15 (.int .u8 33) fun v16 =>
qG v16 true (fun k => k s2 H) H fun v18 H =>
qG v16 true (fun k => qGtr X 3 v18 (.int .i64 3) fun v => k v H) H fun v19 H =>
qG v16 true (fun k => k v19 H) H fun v20 H =>
qG v20 false (fun k => k s0 H) H fun v21 H =>
qG v20 false (fun k => qRes (C 39 [v21, (.int .i64 6)] H) k) H fun v22 H =>
qG v20 false (fun k => qEql X 3 v22 (.int .i64 0) fun v => k v H) H fun v23 H =>
qG v16 true (fun k => qPick v20 (.bool true) v23 fun v => k v H) H fun v24 H =>
qPick v16 v24 (.bool false) fun v25 =>
k [s0, s1, s2, s4, s6, s7, s8, s9, s10, s12, s13, v25, s35, s50, s55, s80, s100, s109, s124, s152, s165] H : R))
noncomputable def r115_0 (k : KT R) : KT R := fun fr H => opn 21 fr (fun s0 s1 s2 s4 s6 s7 s8 s9 s10 s12 s13 s25 s35 s50 s55 s80 s100 s109 s124 s152 s165 => 
(qBox s1 H fun v4 H =>
qNew (.cells z30) .ptr H fun v6 H =>
k [s0, s1, s2, v4, v6, s7, s8, s9, s10, s12, s13, s25, s35, s50, s55, s80, s100, s109, s124, s152, s165] H : R))
noncomputable def c115 (C : CallF) (l0 : List AV) (H : AH) (k : AV → AH → R) : R := opn 3 l0 (fun x0 x1 x2 => (qFn (fun kr => (r115_0 (r115_1 C (qCd (sel 11) (fun _ => (r115_2 kr)) (fun k17 => k17) (r115_3 C (r115_4 C (qCd (sel 12) (fun _ => (r115_5 C kr)) (fun k16 => k16) (r115_6 C (qCd (sel 13) (fun _ => (r115_7 (r115_8 C (qBl (fun k12 => (qLoop (l115_15 C k12))) (r115_12 kr))))) (fun k11 => k11) (r115_13 C (qBl (fun k1 => (r115_14 (qCd (sel 15) (fun _ => (r115_15 C kr)) (fun k2 => (r115_16 (qCd (sel 16) (fun _ => (r115_17 (r115_18 (qBl (fun k4 => (qLoop (l115_8 C k4))) (r115_23 kr))))) (fun k3 => (r115_24 (qCd (sel 19) (fun _ => (r115_25 C kr)) (fun k9 => (r115_26 (qCd (sel 20) (fun _ => (r115_27 C kr)) (fun k10 => k10) k9))) k3))) k2))) k1))) (r115_28 C kr))))))))))))
(fun fr H => qPtr (sel 4 fr) (qLdA 4 (sel 4 fr) H fun w0 => k w0 H)) [x0, x1, x2, undef, undef, undef, undef, undef, undef, undef, undef, undef, undef, undef, undef, undef, undef, undef, undef, undef, undef] H : R))
/- (refectory/merge.item).key -/
noncomputable def r116_3 (k : KT R) : KT R := fun fr H => opn 4 fr (fun s0 s1 s2 s8 => 
(qFa 0 s1 fun v14 =>
qLd v14 H fun v15 =>
qNc v15 fun v16 =>
qFa 2 v16 fun v17 =>
qLd v17 H fun v18 =>
k [s0, s1, v18, s8] H : R))
noncomputable def r116_2 (k : KT R) : KT R := fun fr H => opn 4 fr (fun s0 s1 s2 s8 => 
(qFa 0 s1 fun v9 =>
qLd v9 H fun v10 =>
qNc v10 fun v11 =>
qFa 1 v11 fun v12 =>
qLd v12 H fun v13 =>
k [s0, s1, v13, s8] H : R))
noncomputable def r116_1 (k : KT R) : KT R := fun fr H => opn 4 fr (fun s0 s1 s2 s8 => 
(qFa 0 s1 fun v3 =>
qLd v3 H fun v4 =>
qNc v4 fun v5 =>
qFa 1 v5 fun v6 =>
qLd v6 H fun v7 =>
qNeq X 9 v7 (.str []) fun v8 =>
k [s0, s1, s2, v8] H : R))
noncomputable def r116_0 (k : KT R) : KT R := fun fr H => opn 4 fr (fun s0 s1 s2 s8 => 
(qBox s0 H fun v1 H =>
k [s0, v1, (.str []), s8] H : R))
noncomputable def c116 (C : CallF) (l0 : List AV) (H : AH) (k : AV → AH → R) : R := opn 1 l0 (fun x0 => (qFn (fun kr => (r116_0 (r116_1 (qCd (sel 3) (fun _ => (r116_2 kr)) (fun k1 => k1) (r116_3 kr)))))
(fun fr H => k (sel 2 fr) H) [x0, undef, undef, undef] H : R))
/- (*refectory/merge.search).one -/
noncomputable def r117_12 (C : CallF) (k : KT R) : KT R := fun fr H => opn 12 fr (fun s0 s1 s3 s4 s5 s6 s7 s8 s9 s15 s50 s95 => 
(qRes (C 79 [s0, s9, s7] H) fun v123 H =>
k [s0, s1, s3, v123, s5, s6, s7, s8, s9, s15, s50, s95] H : R))
noncomputable def r117_11 (C : CallF) (k : KT R) : KT R := fun fr H => opn 12 fr (fun s0 s1 s3 s4 s5 s6 s7 s8 s9 s15 s50 s95 => 
(qFa 0 s3 fun v98 =>
qFa 0 v98 fun v99 =>
qLd v99 H fun v100 =>
qNc v100 fun v101 =>
qFa 6 v101 fun v102 =>
qLd v102 H fun v103 =>
qFa 0 s5 fun v104 =>
qLd v104 H fun v105 =>
qFa 2 s3 fun v109 =>
qFa 0 v109 fun v110 =>
qLd v110 H fun v111 =>
qNc v111 fun v112 =>
qFa 6 v112 fun v113 =>
qLd v113 H fun v114 =>
qFa 0 s6 fun v115 =>
qLd v115 H fun v116 =>
qRes (C 80 [s0, v103, v105, s8] H) fun v107 H =>
qLd v115 H fun w => qSame v116 w (qLd v113 H fun w => qSame v114 w (qLd v110 H fun w => qSame v111 w (qRes (C 80 [s0, v114, v116, s8] H) fun v118 H =>
qApp 2 24 v107 v118 false H fun v119 H =>
k [s0, s1, s3, s4, s5, s6, s7, s8, v119, s15, s50, s95] H))) : R))
noncomputable def r117_10 (k : KT R) : KT R := fun fr H => opn 12 fr (fun s0 s1 s3 s4 s5 s6 s7 s8 s9 s15 s50 s95 => 
(qNew (.map []) .map H fun v96 H =>
k [s0, s1, s3, s4, s5, s6, s7, v96, s9, s15, s50, s95] H : R))
noncomputable def r117_9 (k : KT R) : KT R := fun fr H => opn 12 fr (fun s0 s1 s3 s4 s5 s6 s7 s8 s9 s15 s50 s95 => 
(k [s0, s1, s3, (.bool false), s5, s6, s7, s8, s9, s15, s50, s95] H : R))
noncomputable def r117_8 (C : CallF) (k : KT R) : KT R := fun fr H => opn 12 fr (fun s0 s1 s3 s4 s5 s6 s7 s8 s9 s15 s50 s95 => 
(qNot s7 fun v64 =>
qG v64 true (fun k => qFa 0 s3 fun v => k v H) H fun v66 H =>
qG v64 true (fun k => qFa 0 v66 fun v => k v H) H fun v67 H =>
qG v64 true (fun k => qLd v67 H fun v => k v H) H fun v68 H =>
qG v64 true (fun k => qNc v68 fun v => k v H) H fun v69 H =>
qG v64 true (fun k => qFa 2 v69 fun v => k v H) H fun v70 H =>
qG v64 true (fun k => qLd v70 H fun v => k v H) H fun v71 H =>
qG v64 true (fun k => qFa 2 s3 fun v => k v H) H fun v72 H =>
qG v64 true (fun k => qFa 0 v72 fun v => k v H) H fun v73 H =>
qG v64 true (fun k => qLd v73 H fun v => k v H) H fun v74 H =>
qG v64 true (fun k => qNc v74 fun v => k v H) H fun v75 H =>
qG v64 true (fun k => qFa 2 v75 fun v => k v H) H fun v76 H =>
qG v64 true (fun k => qLd v76 H fun v => k v H) H fun v77 H =>
qG v64 true (fun k => qNeq X 9 v71 v77 fun v => k v H) H fun v78 H =>
qG v64 true (fun k => k v78 H) H fun v79 H =>
qG v79 false (fun k => qFa 0 s3 fun v => k v H) H fun v80 H =>
qG v79 false (fun k => qFa 0 v80 fun v => k v H) H fun v81 H =>
qG v79 false (fun k => qLd v81 H fun v => k v H) H fun v82 H =>
qG v79 false (fun k => qNc v82 fun v => k v H) H fun v83 H =>
qG v79 false (fun k => qFa 4 v83 fun v => k v H) H fun v84 H =>
qG v79 false (fun k => qLd v84 H fun v => k v H) H fun v85 H =>
qG v79 false (fun k => qFa 2 s3 fun v => k v H) H fun v86 H =>
qG v79 false (fun k => qFa 0 v86 fun v => k v H) H fun v87 H =>
qG v79 false (fun k => qLd v87 H fun v => k v H) H fun v88 H =>
qG v79 false (fun k => qNc v88 fun v => k v H) H fun v89 H =>
qG v79 false (fun k => qFa 4 v89 fun v => k v H) H fun v90 H =>
qG v79 false (fun k => qLd v90 H fun v => k v H) H fun v91 H =>
qG v79 false (fun k => qRes (C 143 [v85, v91] H) k) H fun v92 H =>
qG v79 false (fun k => qNot v92 fun v => k v H) H fun v93 H =>
qG v64 true (fun k => qPick v79 (.bool true) v93 fun v => k v H) H fun v94 H =>
qPick v64 v94 (.bool false) fun v95 =>
k [s0, s1, s3, s4, s5, s6, s7, s8, s9, s15, s50, v95] H : R))
noncomputable def r117_7 (C : CallF) (k : KT R) : KT R := fun fr H => opn 12 fr (fun s0 s1 s3 s4 s5 s6 s7 s8 s9 s15 s50 s95 => 
(qFa 4 s3 fun v51 =>
qLd v51 H fun v52 =>
qG v52 false (fun k => k s0 H) H fun v54 H =>
qG v52 false (fun k => qFa 0 s3 fun v => k v H) H fun v55 H =>
qG v52 false (fun k => qFa 1 v55 fun v => k v H) H fun v56 H =>
qG v52 false (fun k => qLd v56 H fun v => k v H) H fun v57 H =>
qG v52 false (fun k => qFa 2 s3 fun v => k v H) H fun v58 H =>
qG v52 false (fun k => qFa 1 v58 fun v => k v H) H fun v59 H =>
qG v52 false (fun k => qLd v59 H fun v => k v H) H fun v60 H =>
qG v52 false (fun k => qRes (C 142 [v54, v57, v60] H) k) H fun v61 H =>
qPick v52 (.bool true) v61 fun v62 =>
k [s0, s1, s3, s4, s5, s6, v62, s8, s9, s15, s50, s95] H : R))
noncomputable def r117_6 (k : KT R) : KT R := fun fr H => opn 12 fr (fun s0 s1 s3 s4 s5 s6 s7 s8 s9 s15 s50 s95 => 
(k [s0, s1, s3, (.bool false), s5, s6, s7, s8, s9, s15, s50, s95] H : R))
noncomputable def r117_5 (C : CallF) (k : KT R) : KT R := fun fr H => opn 12 fr (fun s0 s1 s3 s4 s5 s6 s7 s8 s9 s15 s50 s95 => 
(qFa 1 s5 fun v29 =>
qLd v29 H fun v30 =>
qFa 1 s6 fun v31 =>
qLd v31 H fun v32 =>
qNeq X 9 v30 v32 fun v33 =>
qG v33 false (fun k => k s0 H) H fun v35 H =>
qG v33 false (fun k => qLdA 2 s5 H fun v => k v H) H fun v36 H =>
qG v33 false (fun k => qRes (C 141 [v35, v36] H) k) H fun v37 H =>
qG v33 false (fun k => k v37 H) H fun v38 H =>
qG v38 false (fun k => k s0 H) H fun v39 H =>
qG v38 false (fun k => qLdA 2 s6 H fun v => k v H) H fun v40 H =>
qG v38 false (fun k => qRes (C 141 [v39, v40] H) k) H fun v41 H =>
qG v33 false (fun k => qPick v38 (.bool true) v41 fun v => k v H) H fun v42 H =>
qG v33 false (fun k => k v42 H) H fun v43 H =>
qG v43 true (fun k => qFa 0 s5 fun v => k v H) H fun v44 H =>
qG v43 true (fun k => qLd v44 H fun v => k v H) H fun v45 H =>
qG v43 true (fun k => qFa 0 s6 fun v => k v H) H fun v46 H =>
qG v43 true (fun k => qLd v46 H fun v => k v H) H fun v47 H =>
qG v43 true (fun k => qNeq X 9 v45 v47 fun v => k v H) H fun v48 H =>
qG v33 false (fun k => qPick v43 v48 (.bool false) fun v => k v H) H fun v49 H =>
qPick v33 (.bool true) v49 fun v50 =>
k [s0, s1, s3, s4, s5, s6, s7, s8, s9, s15, v50, s95] H : R))
noncomputable def r117_4 (C : CallF) (k : KT R) : KT R := fun fr H => opn 12 fr (fun s0 s1 s3 s4 s5 s6 s7 s8 s9 s15 s50 s95 => 
(qFa 0 s3 fun v22 =>
qLdA 2 v22 H fun v23 =>
qFa 2 s3 fun v26 =>
qLdA 2 v26 H fun v27 =>
qNew (.cells z115) .ptr H fun v5 H =>
qNew (.cells z115) .ptr H fun v6 H =>
qRes (C 81 [s0, v23] H) fun v24 H =>
qKeep z115 v6 H (qKeep z115 v5 H (qLdA 2 v26 H fun w => qSame v27 w (qRes (C 81 [s0, v27] H) fun v28 H =>
qKeep z115 v6 H (qKeep z115 v5 H (qSt 2 v5 v24 H fun _ H =>
qSt 2 v6 v28 H fun _ H =>
k [s0, s1, s3, s4, v5, v6, s7, s8, s9, s15, s50, s95] H))))) : R))
noncomputable def r117_3 (k : KT R) : KT R := fun fr H => opn 12 fr (fun s0 s1 s3 s4 s5 s6 s7 s8 s9 s15 s50 s95 => 
(qNc s0 fun v17 =>
qFa 5 v17 fun v18 =>
qLd v18 H fun v19 =>
qLdA 5 s3 H fun v20 =>
qMset X 119 v19 v20 (.bool true) H fun _ H =>
k [s0, s1, s3, s4, s5, s6, s7, s8, s9, s15, s50, s95] H : R))
noncomputable def r117_2 (k : KT R) : KT R := fun fr H => opn 12 fr (fun s0 s1 s3 s4 s5 s6 s7 s8 s9 s15 s50 s95 => 
(k [s0, s1, s3, (.bool true), s5, s6, s7, s8, s9, s15, s50, s95] H : R))
noncomputable def r117_1 (k : KT R) : KT R := fun fr H => opn 12 fr (fun s0 s1 s3 s4 s5 s6 s7 s8 s9 s15 s50 s95 => 
(qNc s0 fun v11 =>
qFa 5 v11 fun v12 =>
qLd v12 H fun v13 =>
qLdA 5 s3 H fun v14 =>
qO (lookup X 119 v13 v14 false H) fun v15 =>
k [s0, s1, s3, s4, s5, s6, s7, s8, s9, v15, s50, s95] H : R))
noncomputable def r117_0 (k : KT R) : KT R := fun fr H => opn 12 fr (fun s0 s1 s3 s4 s5 s6 s7 s8 s9 s15 s50 s95 => 
(qBox s1 H fun v3 H =>
k [s0, s1, v3, (.bool false), s5, s6, s7, s8, s9, s15, s50, s95] H : R))
noncomputable def c117 (C : CallF) (l0 : List AV) (H : AH) (k : AV → AH → R) : R := opn 2 l0 (fun x0 x1 => (qFn (fun kr => (r117_0 (r117_1 (qCd (sel 9) (fun _ => (r117_2 kr)) (fun k3 => k3) (r117_3 (r117_4 C (r117_5 C (qCd (sel 10) (fun _ => (r117_6 kr)) (fun k2 => k2) (r117_7 C (r117_8 C (qCd (sel 11) (fun _ => (r117_9 kr)) (fun k1 => k1) (r117_10 (r117_11 C (r117_12 C kr))))))))))))))
(fun fr H => k (sel 3 fr) H) [x0, x1, undef, undef, undef, undef, undef, undef, undef, undef, undef, undef] H : R))
/- strings.Count -/
noncomputable def r118_10 (k : KT R) : KT R := fun fr H => opn 8 fr (fun s0 s1 s4 s5 s6 s9 s15 s24 => 
(qLenS s1 fun v31 =>
qAdd X 3 s6 v31 fun v32 =>
qSlc Try.t9.desc 0 s0 (some v32) none none fun v33 =>
k [v33, s1, s4, s5, s6, s9, s15, s24] H : R))
noncomputable def r118_9 (k : KT R) : KT R := fun fr H => opn 8 fr (fun s0 s1 s4 s5 s6 s9 s15 s24 => 
(qAdd X 3 s5 (.int .i64 1) fun v27 =>
k [s0, s1, s4, v27, s6, s9, s15, s24] H : R))
noncomputable def r118_8 (k : KT R) : KT R := fun fr H => opn 8 fr (fun s0 s1 s4 s5 s6 s9 s15 s24 => 
(k [s0, s1, s5, s5, s6, s9, s15, s24] H : R))
noncomputable def r118_7 (k : KT R) : KT R := fun fr H => opn 8 fr (fun s0 s1 s4 s5 s6 s9 s15 s24 => 
(qEql X 3 s6 (.int .i64 (-1)) fun v24 =>
k [s0, s1, s4, s5, s6, s9, s15, v24] H : R))
noncomputable def r118_6 (C : CallF) (k : KT R) : KT R := fun fr H => opn 8 fr (fun s0 s1 s4 s5 s6 s9 s15 s24 => 
(qRes (C 146 [s0, s1] H) fun v22 H =>
k [s0, s1, s4, s5, v22, s9, s15, s24] H : R))
noncomputable def l118_4 (C : CallF) (kr : KT R) : KT R → KT R := fun k2 => (qBl (fun k3 => (r118_6 C (r118_7 (qCd (sel 7) (fun _ => (r118_8 kr)) (fun k4 => k4) (r118_9 (r118_10 k3)))))) k2)
noncomputable def r118_5 (k : KT R) : KT R := fun fr H => opn 8 fr (fun s0 s1 s4 s5 s6 s9 s15 s24 => 
(k [s0, s1, s4, (.int .i64 0), s6, s9, s15, s24] H : R))
noncomputable def r118_4 (C : CallF) (k : KT R) : KT R := fun fr H => opn 8 fr (fun s0 s1 s4 s5 s6 s9 s15 s24 => 
(qIx s1 (.int .i64 0) fun v18 =>
qRes (C 145 [s0, v18] H) fun v19 H =>
k [s0, s1, v19, s5, s6, s9, s15, s24] H : R))
noncomputable def r118_3 (k : KT R) : KT R := fun fr H => opn 8 fr (fun s0 s1 s4 s5 s6 s9 s15 s24 => 
(qLenS s1 fun v14 =>
qEql X 3 v14 (.int .i64 1) fun v15 =>
k [s0, s1, s4, s5, s6, s9, v15, s24] H : R))
noncomputable def r118_2 (C : CallF) (k : KT R) : KT R := fun fr H => opn 8 fr (fun s0 s1 s4 s5 s6 s9 s15 s24 => 
(qRes (C 144 [s0] H) fun v11 H =>
qAdd X 3 v11 (.int .i64 1) fun v12 =>
k [s0, s1, v12, s5, s6, s9, s15, s24] H : R))
noncomputable def r118_1 (k : KT R) : KT R := fun fr H => opn 8 fr (fun s0 s1 s4 s5 s6 s9 s15 s24 => 
(qLenS s1 fun v8 =>
qEql X 3 v8 (.int .i64 0) fun v9 =>
k [s0, s1, s4, s5, s6, v9, s15, s24] H : R))
noncomputable def r118_0 (k : KT R) : KT R := fun fr H => opn 8 fr (fun s0 s1 s4 s5 s6 s9 s15 s24 => 
(k [s0, s1, (.int .i64 0), s5, s6, s9, s15, s24] H : R))
noncomputable def c118 (C : CallF) (l0 : List AV) (H : AH) (k : AV → AH → R) : R := opn 2 l0 (fun x0 x1 => (qFn (fun kr => (r118_0 (r118_1 (qCd (sel 5) (fun _ => (r118_2 C kr)) (fun k6 => k6) (r118_3 (qCd (sel 6) (fun _ => (r118_4 C kr)) (fun k5 => k5) (r118_5 (qBl (fun k1 => (qLoop (l118_4 C kr))) kr))))))))
(fun fr H => k (sel 2 fr) H) [x0, x1, undef, undef, undef, undef, undef, undef] H : R))
/- refectory/cost.times[int] -/
noncomputable def r119_3 (k : KT R) : KT R := fun fr H => opn 5 fr (fun s0 s1 s2 s6 s15 => 
(qMul X 3 s0 s1 fun v19 =>
k [s0, s1, s2, v19, s15] H : R))
noncomputable def r119_2 (k : KT R) : KT R := fun fr H => opn 5 fr (fun s0 s1 s2 s6 s15 => 
(k [s0, s1, s2, s2, s15] H : R))
noncomputable def r119_1 (k : KT R) : KT R := fun fr H => opn 5 fr (fun s0 s1 s2 s6 s15 => 
(qGtr X 3 s0 (.int .i64 0) fun v8 =>
qG v8 true (fun k => k s1 H) H fun v10 H =>
qG v8 true (fun k => k s2 H) H fun v11 H =>
qG v8 true (fun k => k s0 H) H fun v12 H =>
qG v8 true (fun k => qQuo X 3 v11 v12 fun v => k v H) H fun v13 H =>
qG v8 true (fun k => qGtr X 3 v10 v13 fun v => k v H) H fun v14 H =>
qPick v8 v14 (.bool false) fun v15 =>
k [s0, s1, s2, s6, v15] H : R))
noncomputable def r119_0 (k : KT R) : KT R := fun fr H => opn 5 fr (fun s0 s1 s2 s6 s15 => 
(k [s0, s1, s2, (.int .i64 0), s15] H : R))
noncomputable def c119 (C : CallF) (l0 : List AV) (H : AH) (k : AV → AH → R) : R := opn 3 l0 (fun x0 x1 x2 => (qFn (fun kr => (r119_0 (r119_1 (qCd (sel 4) (fun _ => (r119_2 kr)) (fun k1 => k1) (r119_3 kr)))))
(fun fr H => k (sel 3 fr) H) [x0, x1, x2, undef, undef] H : R))
/- refectory/refectoryref08.cost -/
noncomputable def r120_15 (k : KT R) : KT R := fun fr H => opn 7 fr (fun s0 s2 s3 s6 s9 s16 s23 => 
(k [s0, s3, s3, s6, s9, s16, s23] H : R))
noncomputable def r120_14 (C : CallF) (k : KT R) : KT R := fun fr H => opn 7 fr (fun s0 s2 s3 s6 s9 s16 s23 => 
(qRes (C 85 [s0, (.str [41])] H) fun v46 H =>
k [s0, s2, s3, s6, s9, s16, s23] H : R))
noncomputable def r120_13 (k : KT R) : KT R := fun fr H => opn 7 fr (fun s0 s2 s3 s6 s9 s16 s23 => 
(qNc s0 fun v39 =>
qFa 1 v39 fun v40 =>
qLd v40 H fun v41 =>
qAdd X 3 v41 (.int .i64 1) fun v42 =>
qNc s0 fun v43 =>
qFa 1 v43 fun v44 =>
qSt 1 v44 v42 H fun _ H =>
k [s0, s2, s3, s6, s9, s16, s23] H : R))
noncomputable def r120_12 (C : CallF) (k : KT R) : KT R := fun fr H => opn 7 fr (fun s0 s2 s3 s6 s9 s16 s23 => 
(qNc s0 fun v27 =>
qFa 0 v27 fun v28 =>
qLd v28 H fun v29 =>
qNc s0 fun v31 =>
qFa 1 v31 fun v32 =>
qLd v32 H fun v33 =>
qIa 3 v29 v33 fun v34 =>
qFa 1 v34 fun v35 =>
qLd v35 H fun v36 =>
qRes (C 147 [v36] H) fun v37 H =>
k [s0, s2, v37, s6, s9, s16, s23] H : R))
noncomputable def r120_11 (k : KT R) : KT R := fun fr H => opn 7 fr (fun s0 s2 s3 s6 s9 s16 s23 => 
(k [s0, (.int .i64 1), s3, s6, s9, s16, s23] H : R))
noncomputable def r120_10 (C : CallF) (k : KT R) : KT R := fun fr H => opn 7 fr (fun s0 s2 s3 s6 s9 s16 s23 => 
(qRes (C 61 [s0] H) fun v25 H =>
k [s0, s2, s3, s6, s9, s16, s23] H : R))
noncomputable def r120_9 (C : CallF) (k : KT R) : KT R := fun fr H => opn 7 fr (fun s0 s2 s3 s6 s9 s16 s23 => 
(qRes (C 58 [s0] H) fun v22 H =>
qNeq X 3 v22 (.int .i64 2) fun v23 =>
k [s0, s2, s3, s6, s9, s16, v23] H : R))
noncomputable def r120_8 (C : CallF) (k : KT R) : KT R := fun fr H => opn 7 fr (fun s0 s2 s3 s6 s9 s16 s23 => 
(qRes (C 85 [s0, (.str [58])] H) fun v20 H =>
k [s0, s2, s3, s6, s9, s16, s23] H : R))
noncomputable def r120_7 (C : CallF) (k : KT R) : KT R := fun fr H => opn 7 fr (fun s0 s2 s3 s6 s9 s16 s23 => 
(qRes (C 61 [s0] H) fun v18 H =>
k [s0, s2, s3, s6, s9, s16, s23] H : R))
noncomputable def r120_6 (C : CallF) (k : KT R) : KT R := fun fr H => opn 7 fr (fun s0 s2 s3 s6 s9 s16 s23 => 
(qRes (C 48 [s0, (.int .i64 1), (.str [110])] H) fun v15 H =>
qNot v15 fun v16 =>
k [s0, s2, s3, s6, s9, v16, s23] H : R))
noncomputable def r120_5 (C : CallF) (k : KT R) : KT R := fun fr H => opn 7 fr (fun s0 s2 s3 s6 s9 s16 s23 => 
(qRes (C 85 [s0, (.str [40])] H) fun v13 H =>
k [s0, s2, s3, s6, s9, s16, s23] H : R))
noncomputable def r120_4 (C : CallF) (k : KT R) : KT R := fun fr H => opn 7 fr (fun s0 s2 s3 s6 s9 s16 s23 => 
(qRes (C 61 [s0] H) fun v11 H =>
k [s0, s2, s3, s6, s9, s16, s23] H : R))
noncomputable def r120_3 (C : CallF) (k : KT R) : KT R := fun fr H => opn 7 fr (fun s0 s2 s3 s6 s9 s16 s23 => 
(qRes (C 48 [s0, (.int .i64 1), (.str [99,111,115,116])] H) fun v8 H =>
qNot v8 fun v9 =>
k [s0, s2, s3, s6, v9, s16, s23] H : R))
noncomputable def r120_2 (k : KT R) : KT R := fun fr H => opn 7 fr (fun s0 s2 s3 s6 s9 s16 s23 => 
(k [s0, (.int .i64 1), s3, s6, s9, s16, s23] H : R))
noncomputable def r120_1 (C : CallF) (k : KT R) : KT R := fun fr H => opn 7 fr (fun s0 s2 s3 s6 s9 s16 s23 => 
(qRes (C 48 [s0, (.int .i64 5), (.str [64])] H) fun v5 H =>
qNot v5 fun v6 =>
k [s0, s2, s3, v6, s9, s16, s23] H : R))
noncomputable def r120_0 (k : KT R) : KT R := fun fr H => opn 7 fr (fun s0 s2 s3 s6 s9 s16 s23 => 
(k [s0, (.int .i64 0), s3, s6, s9, s16, s23] H : R))
noncomputable def c120 (C : CallF) (l0 : List AV) (H : AH) (k : AV → AH → R) : R := opn 1 l0 (fun x0 => (qFn (fun kr => (r120_0 (r120_1 C (qCd (sel 3) (fun _ => (r120_2 kr)) (fun k4 => k4) (r120_3 C (qCd (sel 4) (fun k3 => (r120_4 C k3)) (fun k3 => k3) (r120_5 C (r120_6 C (qCd (sel 5) (fun k2 => (r120_7 C k2)) (fun k2 => k2) (r120_8 C (r120_9 C (qCd (sel 6) (fun _ => (r120_10 C (r120_11 kr))) (fun k1 => k1) (r120_12 C (r120_13 (r120_14 C (r120_15 kr))))))))))))))))
(fun fr H => k (sel 1 fr) H) [x0, undef, undef, undef, undef, undef, undef] H : R))
/- refectory/refectoryref08.input -/
noncomputable def r121_7 (k : KT R) : KT R := fun fr H => opn 4 fr (fun s0 s2 s3 s15 => 
(qLdA 7 s3 H fun v19 =>
qSt 7 s2 v19 H fun _ H =>
k [s0, s2, s3, s15] H : R))
noncomputable def r121_6 (C : CallF) (k : KT R) : KT R := fun fr H => opn 4 fr (fun s0 s2 s3 s15 => 
(qRes (C 102 [s0, (.int .i64 1)] H) fun v17 H =>
qFa 3 s3 fun v18 =>
qSt 4 v18 v17 H fun _ H =>
k [s0, s2, s3, s15] H : R))
noncomputable def r121_5 (C : CallF) (k : KT R) : KT R := fun fr H => opn 4 fr (fun s0 s2 s3 s15 => 
(qRes (C 48 [s0, (.int .i64 5), (.str [61])] H) fun v15 H =>
k [s0, s2, s3, v15] H : R))
noncomputable def r121_4 (C : CallF) (k : KT R) : KT R := fun fr H => opn 4 fr (fun s0 s2 s3 s15 => 
(qRes (C 101 [s0] H) fun v12 H =>
qFa 1 s3 fun v13 =>
qSt 2 v13 v12 H fun _ H =>
k [s0, s2, s3, s15] H : R))
noncomputable def r121_3 (C : CallF) (k : KT R) : KT R := fun fr H => opn 4 fr (fun s0 s2 s3 s15 => 
(qRes (C 85 [s0, (.str [58])] H) fun v10 H =>
k [s0, s2, s3, s15] H : R))
noncomputable def r121_2 (C : CallF) (k : KT R) : KT R := fun fr H => opn 4 fr (fun s0 s2 s3 s15 => 
(qRes (C 57 [s0] H) fun v7 H =>
qBld z194 [(0, 1, v7)] fun v8 =>
qNew (.cells z194) .ptr H fun v3 H =>
qSt 7 v3 v8 H fun _ H =>
k [s0, s2, v3, s15] H : R))
noncomputable def r121_1 (C : CallF) (k : KT R) : KT R := fun fr H => opn 4 fr (fun s0 s2 s3 s15 => 
(qRes (C 47 [s0] H) fun v5 H =>
k [s0, s2, s3, s15] H : R))
noncomputable def r121_0 (k : KT R) : KT R := fun fr H => opn 4 fr (fun s0 s2 s3 s15 => 
(qNew (.cells z194) .ptr H fun v2 H =>
k [s0, v2, s3, s15] H : R))
noncomputable def c121 (C : CallF) (l0 : List AV) (H : AH) (k : AV → AH → R) : R := opn 1 l0 (fun x0 => (qFn (fun kr => (r121_0 (r121_1 C (r121_2 C (r121_3 C (r121_4 C (r121_5 C (qCd (sel 3) (fun k1 => (r121_6 C k1)) (fun k1 => k1) (r121_7 kr)))))))))
(fun fr H => qPtr (sel 1 fr) (qLdA 7 (sel 1 fr) H fun w0 => k w0 H)) [x0, undef, undef, undef] H : R))
/- slices.IndexFunc[[]refectory/api.Dir,refectory/api.Dir] -/
noncomputable def r122_7 (k : KT R) : KT R := fun fr H => opn 8 fr (fun s0 s1 s4 s5 s7 s8 s9 s16 => 
(k [s0, s1, (.int .i64 (-1)), s5, s7, s8, s9, s16] H : R))
noncomputable def r122_6 (k : KT R) : KT R := fun fr H => opn 8 fr (fun s0 s1 s4 s5 s7 s8 s9 s16 => 
(qAdd X 3 s8 (.int .i64 1) fun v18 =>
k [s0, s1, s4, s5, s7, v18, s9, s16] H : R))
noncomputable def r122_5 (k : KT R) : KT R := fun fr H => opn 8 fr (fun s0 s1 s4 s5 s7 s8 s9 s16 => 
(k [s0, s1, s5, s5, s7, s8, s9, s16] H : R))
noncomputable def r122_4 (C : CallF) (k : KT R) : KT R := fun fr H => opn 8 fr (fun s0 s1 s4 s5 s7 s8 s9 s16 => 
(qIa 2 s0 s5 fun v14 =>
qLdA 2 v14 H fun v15 =>
qCallV C s1 [v15] H fun v16 H =>
k [s0, s1, s4, s5, s7, s8, s9, v16] H : R))
noncomputable def r122_3 (k : KT R) : KT R := fun fr H => opn 8 fr (fun s0 s1 s4 s5 s7 s8 s9 s16 => 
(k [s0, s1, s4, s8, s7, s8, s9, s16] H : R))
noncomputable def r122_2 (k : KT R) : KT R := fun fr H => opn 8 fr (fun s0 s1 s4 s5 s7 s8 s9 s16 => 
(qLss X 3 s8 s7 fun v9 =>
k [s0, s1, s4, s5, s7, s8, v9, s16] H : R))
noncomputable def l122_5 (C : CallF) (k1 : KT R) (kr : KT R) : KT R → KT R := fun k2 => (r122_2 (qCd (sel 6) (fun k5 => k5) (fun _ => k1) (qBl (fun k3 => (r122_3 (r122_4 C (qCd (sel 7) (fun _ => (r122_5 kr)) (fun k4 => k4) k3)))) (r122_6 k2))))
noncomputable def r122_1 (k : KT R) : KT R := fun fr H => opn 8 fr (fun s0 s1 s4 s5 s7 s8 s9 s16 => 
(qLenL s0 fun v7 =>
k [s0, s1, s4, s5, v7, (.int .i64 0), s9, s16] H : R))
noncomputable def r122_0 (k : KT R) : KT R := fun fr H => opn 8 fr (fun s0 s1 s4 s5 s7 s8 s9 s16 => 
(k [s0, s1, (.int .i64 0), s5, s7, s8, s9, s16] H : R))
noncomputable def c122 (C : CallF) (l0 : List AV) (H : AH) (k : AV → AH → R) : R := opn 2 l0 (fun x0 x1 => (qFn (fun kr => (r122_0 (r122_1 (qBl (fun k1 => (qLoop (l122_5 C k1 kr))) (r122_7 kr)))))
(fun fr H => k (sel 2 fr) H) [x0, x1, undef, undef, undef, undef, undef, undef] H : R))
/- slices.IndexFunc[[]refectory/api.Arg,refectory/api.Arg] -/
noncomputable def r123_7 (k : KT R) : KT R := fun fr H => opn 8 fr (fun s0 s1 s4 s5 s7 s8 s9 s16 => 
(k [s0, s1, (.int .i64 (-1)), s5, s7, s8, s9, s16] H : R))
noncomputable def r123_6 (k : KT R) : KT R := fun fr H => opn 8 fr (fun s0 s1 s4 s5 s7 s8 s9 s16 => 
(qAdd X 3 s8 (.int .i64 1) fun v18 =>
k [s0, s1, s4, s5, s7, v18, s9, s16] H : R))
noncomputable def r123_5 (k : KT R) : KT R := fun fr H => opn 8 fr (fun s0 s1 s4 s5 s7 s8 s9 s16 => 
(k [s0, s1, s5, s5, s7, s8, s9, s16] H : R))
noncomputable def r123_4 (C : CallF) (k : KT R) : KT R := fun fr H => opn 8 fr (fun s0 s1 s4 s5 s7 s8 s9 s16 => 
(qIa 5 s0 s5 fun v14 =>
qLdA 5 v14 H fun v15 =>
qCallV C s1 [v15] H fun v16 H =>
k [s0, s1, s4, s5, s7, s8, s9, v16] H : R))
noncomputable def r123_3 (k : KT R) : KT R := fun fr H => opn 8 fr (fun s0 s1 s4 s5 s7 s8 s9 s16 => 
(k [s0, s1, s4, s8, s7, s8, s9, s16] H : R))
noncomputable def r123_2 (k : KT R) : KT R := fun fr H => opn 8 fr (fun s0 s1 s4 s5 s7 s8 s9 s16 => 
(qLss X 3 s8 s7 fun v9 =>
k [s0, s1, s4, s5, s7, s8, v9, s16] H : R))
noncomputable def l123_5 (C : CallF) (k1 : KT R) (kr : KT R) : KT R → KT R := fun k2 => (r123_2 (qCd (sel 6) (fun k5 => k5) (fun _ => k1) (qBl (fun k3 => (r123_3 (r123_4 C (qCd (sel 7) (fun _ => (r123_5 kr)) (fun k4 => k4) k3)))) (r123_6 k2))))
noncomputable def r123_1 (k : KT R) : KT R := fun fr H => opn 8 fr (fun s0 s1 s4 s5 s7 s8 s9 s16 => 
(qLenL s0 fun v7 =>
k [s0, s1, s4, s5, v7, (.int .i64 0), s9, s16] H : R))
noncomputable def r123_0 (k : KT R) : KT R := fun fr H => opn 8 fr (fun s0 s1 s4 s5 s7 s8 s9 s16 => 
(k [s0, s1, (.int .i64 0), s5, s7, s8, s9, s16] H : R))
noncomputable def c123 (C : CallF) (l0 : List AV) (H : AH) (k : AV → AH → R) : R := opn 2 l0 (fun x0 x1 => (qFn (fun kr => (r123_0 (r123_1 (qBl (fun k1 => (qLoop (l123_5 C k1 kr))) (r123_7 kr)))))
(fun fr H => k (sel 2 fr) H) [x0, x1, undef, undef, undef, undef, undef, undef] H : R))
/- (*refectory/collect.gather).says$1 -/
noncomputable def r124_1 (k : KT R) : KT R := fun fr H => opn 3 fr (fun s0 s1 s2 => 
(qFa 0 s1 fun v3 =>
qLd v3 H fun v4 =>
qEql X 9 v4 (.str [105,102]) fun v5 =>
k [s0, s1, v5] H : R))
noncomputable def r124_0 (k : KT R) : KT R := fun fr H => opn 3 fr (fun s0 s1 s2 => 
(qBox s0 H fun v1 H =>
k [s0, v1, (.bool false)] H : R))
noncomputable def c124 (C : CallF) (l0 : List AV) (H : AH) (k : AV → AH → R) : R := opn 1 l0 (fun x0 => (qFn (fun kr => (r124_0 (r124_1 kr)))
(fun fr H => k (sel 2 fr) H) [x0, undef, undef] H : R))
/- refectory/jval.Get -/
noncomputable def r125_7 (k : KT R) : KT R := fun fr H => opn 12 fr (fun s0 s1 s2 s4 s5 s6 s7 s9 s10 s11 s12 s30 => 
(qBld z30 [] fun v37 =>
qSt 4 s4 v37 H fun _ H =>
k [s0, s1, s2, s4, (.bool false), s6, s7, s9, s10, s11, s12, s30] H : R))
noncomputable def r125_6 (k : KT R) : KT R := fun fr H => opn 12 fr (fun s0 s1 s2 s4 s5 s6 s7 s9 s10 s11 s12 s30 => 
(qAdd X 3 s11 (.int .i64 1) fun v36 =>
k [s0, s1, s2, s4, s5, s6, s7, s9, s10, v36, s12, s30] H : R))
noncomputable def r125_5 (k : KT R) : KT R := fun fr H => opn 12 fr (fun s0 s1 s2 s4 s5 s6 s7 s9 s10 s11 s12 s30 => 
(qFa 3 s2 fun v31 =>
qLd v31 H fun v32 =>
qIa 4 v32 s6 fun v34 =>
qLdA 4 v34 H fun v35 =>
qSt 4 s4 v35 H fun _ H =>
k [s0, s1, s2, s4, (.bool true), s6, s7, s9, s10, s11, s12, s30] H : R))
noncomputable def r125_4 (k : KT R) : KT R := fun fr H => opn 12 fr (fun s0 s1 s2 s4 s5 s6 s7 s9 s10 s11 s12 s30 => 
(qFa 0 s2 fun v16 =>
qLd v16 H fun v17 =>
qEql X 3 v17 (.int .i64 8) fun v18 =>
qG v18 true (fun k => k s7 H) H fun v20 H =>
qG v18 true (fun k => k s1 H) H fun v21 H =>
qG v18 true (fun k => qEql X 9 v20 v21 fun v => k v H) H fun v22 H =>
qPick v18 v22 (.bool false) fun v23 =>
qG v23 true (fun k => k s6 H) H fun v25 H =>
qG v23 true (fun k => qFa 3 s2 fun v => k v H) H fun v26 H =>
qG v23 true (fun k => qLd v26 H fun v => k v H) H fun v27 H =>
qG v23 true (fun k => qLenL v27 fun v => k v H) H fun v28 H =>
qG v23 true (fun k => qLss X 3 v25 v28 fun v => k v H) H fun v29 H =>
qPick v23 v29 (.bool false) fun v30 =>
k [s0, s1, s2, s4, s5, s6, s7, s9, s10, s11, s12, v30] H : R))
noncomputable def r125_3 (k : KT R) : KT R := fun fr H => opn 12 fr (fun s0 s1 s2 s4 s5 s6 s7 s9 s10 s11 s12 s30 => 
(qIa 1 s9 s11 fun v14 =>
qLd v14 H fun v15 =>
k [s0, s1, s2, s4, s5, s11, v15, s9, s10, s11, s12, s30] H : R))
noncomputable def r125_2 (k : KT R) : KT R := fun fr H => opn 12 fr (fun s0 s1 s2 s4 s5 s6 s7 s9 s10 s11 s12 s30 => 
(qLss X 3 s11 s10 fun v12 =>
k [s0, s1, s2, s4, s5, s6, s7, s9, s10, s11, v12, s30] H : R))
noncomputable def l125_5 (k1 : KT R) (kr : KT R) : KT R → KT R := fun k2 => (r125_2 (qCd (sel 10) (fun k5 => k5) (fun _ => k1) (qBl (fun k3 => (r125_3 (r125_4 (qCd (sel 11) (fun _ => (r125_5 kr)) (fun k4 => k4) k3)))) (r125_6 k2))))
noncomputable def r125_1 (k : KT R) : KT R := fun fr H => opn 12 fr (fun s0 s1 s2 s4 s5 s6 s7 s9 s10 s11 s12 s30 => 
(qFa 2 s2 fun v8 =>
qLd v8 H fun v9 =>
qLenL v9 fun v10 =>
k [s0, s1, s2, s4, s5, s6, s7, v9, v10, (.int .i64 0), s12, s30] H : R))
noncomputable def r125_0 (k : KT R) : KT R := fun fr H => opn 12 fr (fun s0 s1 s2 s4 s5 s6 s7 s9 s10 s11 s12 s30 => 
(qBox s0 H fun v2 H =>
qNew (.cells z30) .ptr H fun v4 H =>
k [s0, s1, v2, v4, (.bool false), s6, s7, s9, s10, s11, s12, s30] H : R))
noncomputable def c125 (C : CallF) (l0 : List AV) (H : AH) (k : AV → AH → R) : R := opn 2 l0 (fun x0 x1 => (qFn (fun kr => (r125_0 (r125_1 (qBl (fun k1 => (qLoop (l125_5 k1 kr))) (r125_7 kr)))))
(fun fr H => qPtr (sel 3 fr) (qLdA 4 (sel 3 fr) H fun w0 => k (.tup [w0, (sel 4 fr)]) H)) [x0, x1, undef, undef, undef, undef, undef, undef, undef, undef, undef, undef] H : R))
/- refectory/schema.Find -/
noncomputable def r126_6 (k : KT R) : KT R := fun fr H => opn 9 fr (fun s0 s1 s2 s3 s4 s5 s6 s11 s19 => 
(qBld z110 [] fun v24 =>
qSt 5 s4 v24 H fun _ H =>
k [s0, s1, s2, s3, s4, (.bool false), s6, s11, s19] H : R))
noncomputable def r126_3 (k : KT R) : KT R := fun fr H => opn 9 fr (fun s0 s1 s2 s3 s4 s5 s6 s11 s19 => 
(qFa 2 s2 fun v14 =>
qLd v14 H fun v15 =>
qIa 5 v15 s6 fun v17 =>
qLdA 5 v17 H fun v18 =>
qSt 5 s4 v18 H fun _ H =>
k [s0, s1, s2, s3, s4, (.bool true), s6, s11, s19] H : R))
noncomputable def r126_5 (k : KT R) : KT R := fun fr H => opn 9 fr (fun s0 s1 s2 s3 s4 s5 s6 s11 s19 => 
(qLd s3 H fun v22 =>
qBld z110 [(0, 1, (.int .i64 1)), (1, 1, v22)] fun v23 =>
qSt 5 s4 v23 H fun _ H =>
k [s0, s1, s2, s3, s4, (.bool true), s6, s11, s19] H : R))
noncomputable def r126_4 (C : CallF) (k : KT R) : KT R := fun fr H => opn 9 fr (fun s0 s1 s2 s3 s4 s5 s6 s11 s19 => 
(qLd s3 H fun v20 =>
qRes (C 150 [v20] H) fun v21 H =>
k [s0, s1, s2, s3, s4, s5, s6, s11, v21] H : R))
noncomputable def r126_2 (k : KT R) : KT R := fun fr H => opn 9 fr (fun s0 s1 s2 s3 s4 s5 s6 s11 s19 => 
(qGeq X 3 s6 (.int .i64 0) fun v13 =>
k [s0, s1, s2, s3, s4, s5, s6, v13, s19] H : R))
noncomputable def r126_1 (C : CallF) (k : KT R) : KT R := fun fr H => opn 9 fr (fun s0 s1 s2 s3 s4 s5 s6 s11 s19 => 
(qFa 2 s2 fun v7 =>
qLd v7 H fun v8 =>
qRes (C 148 [v8, (.fn (.func 149) [] [s3])] H) fun v10 H =>
k [s0, s1, s2, s3, s4, s5, v10, s11, s19] H : R))
noncomputable def r126_0 (k : KT R) : KT R := fun fr H => opn 9 fr (fun s0 s1 s2 s3 s4 s5 s6 s11 s19 => 
(qBox s0 H fun v2 H =>
qBox s1 H fun v3 H =>
qNew (.cells z110) .ptr H fun v4 H =>
k [s0, s1, v2, v3, v4, (.bool false), s6, s11, s19] H : R))
noncomputable def c126 (C : CallF) (l0 : List AV) (H : AH) (k : AV → AH → R) : R := opn 2 l0 (fun x0 x1 => (qFn (fun kr => (r126_0 (r126_1 C (qBl (fun k1 => (r126_2 (qCd (sel 7) (fun _ => (r126_3 kr)) (fun k2 => (r126_4 C (qCd (sel 8) (fun _ => (r126_5 kr)) (fun k3 => k3) k2))) k1))) (r126_6 kr)))))
(fun fr H => qPtr (sel 4 fr) (qLdA 5 (sel 4 fr) H fun w0 => k (.tup [w0, (sel 5 fr)]) H)) [x0, x1, undef, undef, undef, undef, undef, undef, undef] H : R))
/- refectory/refectoryref02.digits -/
noncomputable def r127_4 (k : KT R) : KT R := fun fr H => opn 5 fr (fun s0 s1 s4 s5 s19 => 
(k [s0, s1, s5, s5, s19] H : R))
noncomputable def r127_3 (k : KT R) : KT R := fun fr H => opn 5 fr (fun s0 s1 s4 s5 s19 => 
(qAdd X 3 s5 (.int .i64 1) fun v21 =>
k [s0, s1, s4, v21, s19] H : R))
noncomputable def r127_2 (C : CallF) (k : KT R) : KT R := fun fr H => opn 5 fr (fun s0 s1 s4 s5 s19 => 
(qAdd X 3 s1 s5 fun v8 =>
qLenS s0 fun v10 =>
qLss X 3 v8 v10 fun v11 =>
qG v11 true (fun k => k s0 H) H fun v13 H =>
qG v11 true (fun k => k s1 H) H fun v14 H =>
qG v11 true (fun k => k s5 H) H fun v15 H =>
qG v11 true (fun k => qAdd X 3 v14 v15 fun v => k v H) H fun v16 H =>
qG v11 true (fun k => qIx v13 v16 fun v => k v H) H fun v17 H =>
qG v11 true (fun k => qRes (C 95 [v17] H) k) H fun v18 H =>
qPick v11 v18 (.bool false) fun v19 =>
k [s0, s1, s4, s5, v19] H : R))
noncomputable def l127_4 (C : CallF) (k1 : KT R) : KT R → KT R := fun k2 => (r127_2 C (qCd (sel 4) (fun k4 => k4) (fun _ => k1) (qBl (fun k3 => (r127_3 k3)) k2)))
noncomputable def r127_1 (k : KT R) : KT R := fun fr H => opn 5 fr (fun s0 s1 s4 s5 s19 => 
(k [s0, s1, s4, (.int .i64 0), s19] H : R))
noncomputable def r127_0 (k : KT R) : KT R := fun fr H => opn 5 fr (fun s0 s1 s4 s5 s19 => 
(k [s0, s1, (.int .i64 0), s5, s19] H : R))
noncomputable def c127 (C : CallF) (l0 : List AV) (H : AH) (k : AV → AH → R) : R := opn 2 l0 (fun x0 x1 => (qFn (fun kr => (r127_0 (r127_1 (qBl (fun k1 => (qLoop (l127_4 C k1))) (r127_4 kr)))))
(fun fr H => k (sel 2 fr) H) [x0, x1, undef, undef, undef] H : R))
/- refectory/refectoryref04.block -/
noncomputable def r128_10 (k : KT R) : KT R := fun fr H => opn 10 fr (fun s0 s1 s4 s5 s6 s7 s11 s21 s41 s59 => 
(k [s0, s1, (.str []), s1, (.bool false), s7, s11, s21, s41, s59] H : R))
noncomputable def r128_5 (C : CallF) (k : KT R) : KT R := fun fr H => opn 10 fr (fun s0 s1 s4 s5 s6 s7 s11 s21 s41 s59 => 
(qRes (C 151 [s7] H) fun v36 H =>
qAdd X 3 s1 (.int .i64 3) fun v38 =>
qRes (C 152 [s7] H) fun v40 H =>
k [s0, s1, v36, v38, v40, s7, s11, s21, s41, s59] H : R))
noncomputable def r128_7 (k : KT R) : KT R := fun fr H => opn 10 fr (fun s0 s1 s4 s5 s6 s7 s11 s21 s41 s59 => 
(qAdd X 9 s7 (.str [34,34,34]) fun v56 =>
qAdd X 3 s1 (.int .i64 4) fun v58 =>
k [s0, v58, s4, s5, s6, v56, s11, s21, s41, s59] H : R))
noncomputable def r128_9 (k : KT R) : KT R := fun fr H => opn 10 fr (fun s0 s1 s4 s5 s6 s7 s11 s21 s41 s59 => 
(k [s0, s1, (.str []), s1, (.bool false), s7, s11, s21, s41, s59] H : R))
noncomputable def r128_3 (k : KT R) : KT R := fun fr H => opn 10 fr (fun s0 s1 s4 s5 s6 s7 s11 s21 s41 s59 => 
(qAdd X 3 s1 (.int .i64 1) fun v16 =>
qSlc Try.t9.desc 0 s0 (some s1) (some v16) none fun v17 =>
qAdd X 9 s7 v17 fun v18 =>
qAdd X 3 s1 (.int .i64 1) fun v20 =>
k [s0, v20, s4, s5, s6, v18, s11, s21, s41, s59] H : R))
noncomputable def r128_8 (k : KT R) : KT R := fun fr H => opn 10 fr (fun s0 s1 s4 s5 s6 s7 s11 s21 s41 s59 => 
(qIx s0 s1 fun v62 =>
qLss X 5 v62 (.int .u8 32) fun v63 =>
qG v63 true (fun k => k s0 H) H fun v65 H =>
qG v63 true (fun k => k s1 H) H fun v66 H =>
qG v63 true (fun k => qIx v65 v66 fun v => k v H) H fun v67 H =>
qG v63 true (fun k => qNeq X 5 v67 (.int .u8 9) fun v => k v H) H fun v68 H =>
qPick v63 v68 (.bool false) fun v69 =>
qG v69 true (fun k => k s0 H) H fun v71 H =>
qG v69 true (fun k => k s1 H) H fun v72 H =>
qG v69 true (fun k => qIx v71 v72 fun v => k v H) H fun v73 H =>
qG v69 true (fun k => qNeq X 5 v73 (.int .u8 10) fun v => k v H) H fun v74 H =>
qPick v69 v74 (.bool false) fun v75 =>
qG v75 true (fun k => k s0 H) H fun v77 H =>
qG v75 true (fun k => k s1 H) H fun v78 H =>
qG v75 true (fun k => qIx v77 v78 fun v => k v H) H fun v79 H =>
qG v75 true (fun k => qNeq X 5 v79 (.int .u8 13) fun v => k v H) H fun v80 H =>
qPick v75 v80 (.bool false) fun v81 =>
k [s0, s1, s4, s5, s6, s7, s11, s21, s41, v81] H : R))
noncomputable def r128_6 (k : KT R) : KT R := fun fr H => opn 10 fr (fun s0 s1 s4 s5 s6 s7 s11 s21 s41 s59 => 
(qLenS s0 fun v43 =>
qSub X 3 v43 s1 fun v45 =>
qGeq X 3 v45 (.int .i64 4) fun v46 =>
qG v46 true (fun k => k s0 H) H fun v48 H =>
qG v46 true (fun k => k s1 H) H fun v49 H =>
qG v46 true (fun k => k s1 H) H fun v50 H =>
qG v46 true (fun k => qAdd X 3 v50 (.int .i64 4) fun v => k v H) H fun v51 H =>
qG v46 true (fun k => qSlc Try.t9.desc 0 v48 (some v49) (some v51) none fun v => k v H) H fun v52 H =>
qG v46 true (fun k => qEql X 9 v52 (.str [92,34,34,34]) fun v => k v H) H fun v53 H =>
qPick v46 v53 (.bool false) fun v54 =>
k [s0, s1, s4, s5, s6, s7, s11, s21, v54, s59] H : R))
noncomputable def r128_4 (k : KT R) : KT R := fun fr H => opn 10 fr (fun s0 s1 s4 s5 s6 s7 s11 s21 s41 s59 => 
(qLenS s0 fun v23 =>
qSub X 3 v23 s1 fun v25 =>
qGeq X 3 v25 (.int .i64 3) fun v26 =>
qG v26 true (fun k => k s0 H) H fun v28 H =>
qG v26 true (fun k => k s1 H) H fun v29 H =>
qG v26 true (fun k => k s1 H) H fun v30 H =>
qG v26 true (fun k => qAdd X 3 v30 (.int .i64 3) fun v => k v H) H fun v31 H =>
qG v26 true (fun k => qSlc Try.t9.desc 0 v28 (some v29) (some v31) none fun v => k v H) H fun v32 H =>
qG v26 true (fun k => qEql X 9 v32 (.str [34,34,34]) fun v => k v H) H fun v33 H =>
qPick v26 v33 (.bool false) fun v34 =>
k [s0, s1, s4, s5, s6, s7, s11, v34, s41, s59] H : R))
noncomputable def r128_2 (k : KT R) : KT R := fun fr H => opn 10 fr (fun s0 s1 s4 s5 s6 s7 s11 s21 s41 s59 => 
(qLenS s0 fun v10 =>
qLss X 3 s1 v10 fun v11 =>
k [s0, s1, s4, s5, s6, s7, v11, s21, s41, s59] H : R))
noncomputable def l128_8 (C : CallF) (k1 : KT R) (kr : KT R) : KT R → KT R := fun k2 => (r128_2 (qCd (sel 6) (fun k8 => k8) (fun _ => k1) (qBl (fun k3 => (qBl (fun k4 => (r128_4 (qCd (sel 7) (fun _ => (r128_5 C kr)) (fun k5 => (r128_6 (qCd (sel 8) (fun k6 => (r128_7 k6)) (fun k6 => (r128_8 (qCd (sel 9) (fun _ => (r128_9 kr)) (fun k7 => (r128_3 k7)) k6))) k5))) k4))) k3)) k2)))
noncomputable def r128_1 (k : KT R) : KT R := fun fr H => opn 10 fr (fun s0 s1 s4 s5 s6 s7 s11 s21 s41 s59 => 
(k [s0, s1, s4, s5, s6, (.str []), s11, s21, s41, s59] H : R))
noncomputable def r128_0 (k : KT R) : KT R := fun fr H => opn 10 fr (fun s0 s1 s4 s5 s6 s7 s11 s21 s41 s59 => 
(k [s0, s1, (.str []), (.int .i64 0), (.bool false), s7, s11, s21, s41, s59] H : R))
noncomputable def c128 (C : CallF) (l0 : List AV) (H : AH) (k : AV → AH → R) : R := opn 2 l0 (fun x0 x1 => (qFn (fun kr => (r128_0 (r128_1 (qBl (fun k1 => (qLoop (l128_8 C k1 kr))) (r128_10 kr)))))
(fun fr H => k (.tup [(sel 2 fr), (sel 3 fr), (sel 4 fr)]) H) [x0, x1, undef, undef, undef, undef, undef, undef, undef, undef] H : R))
/- refectory/refectoryref01.Unquote -/
noncomputable def r129_15 (k : KT R) : KT R := fun fr H => opn 13 fr (fun s0 s2 s3 s4 s5 s6 s7 s8 s29 s38 s48 s61 s69 => 
(k [s0, s5, (.bool true), s4, s5, s6, s7, s8, s29, s38, s48, s61, s69] H : R))
noncomputable def r129_12 (k : KT R) : KT R := fun fr H => opn 13 fr (fun s0 s2 s3 s4 s5 s6 s7 s8 s29 s38 s48 s61 s69 => 
(qAdd X 9 s5 s7 fun v64 =>
qAdd X 3 s6 (.int .i64 1) fun v66 =>
qAdd X 3 v66 s8 fun v68 =>
k [s0, s2, s3, s4, v64, v68, s7, s8, s29, s38, s48, s61, s69] H : R))
noncomputable def r129_11 (k : KT R) : KT R := fun fr H => opn 13 fr (fun s0 s2 s3 s4 s5 s6 s7 s8 s29 s38 s48 s61 s69 => 
(k [s0, (.str []), (.bool false), s4, s5, s6, s7, s8, s29, s38, s48, s61, s69] H : R))
noncomputable def r129_10 (k : KT R) : KT R := fun fr H => opn 13 fr (fun s0 s2 s3 s4 s5 s6 s7 s8 s29 s38 s48 s61 s69 => 
(qEql X 3 s8 (.int .i64 0) fun v61 =>
k [s0, s2, s3, s4, s5, s6, s7, s8, s29, s38, s48, v61, s69] H : R))
noncomputable def r129_9 (C : CallF) (k : KT R) : KT R := fun fr H => opn 13 fr (fun s0 s2 s3 s4 s5 s6 s7 s8 s29 s38 s48 s61 s69 => 
(qAdd X 3 s6 (.int .i64 1) fun v56 =>
qRes (C 153 [s4, v56] H) fun v57 H =>
qExt v57 0 fun v58 =>
qExt v57 1 fun v59 =>
k [s0, s2, s3, s4, s5, s6, v58, v59, s29, s38, s48, s61, s69] H : R))
noncomputable def r129_14 (k : KT R) : KT R := fun fr H => opn 13 fr (fun s0 s2 s3 s4 s5 s6 s7 s8 s29 s38 s48 s61 s69 => 
(k [s0, (.str []), (.bool false), s4, s5, s6, s7, s8, s29, s38, s48, s61, s69] H : R))
noncomputable def r129_7 (k : KT R) : KT R := fun fr H => opn 13 fr (fun s0 s2 s3 s4 s5 s6 s7 s8 s29 s38 s48 s61 s69 => 
(qAdd X 3 s6 (.int .i64 1) fun v43 =>
qSlc Try.t9.desc 0 s4 (some s6) (some v43) none fun v44 =>
qAdd X 9 s5 v44 fun v45 =>
qAdd X 3 s6 (.int .i64 1) fun v47 =>
k [s0, s2, s3, s4, v45, v47, s7, s8, s29, s38, s48, s61, s69] H : R))
noncomputable def r129_13 (k : KT R) : KT R := fun fr H => opn 13 fr (fun s0 s2 s3 s4 s5 s6 s7 s8 s29 s38 s48 s61 s69 => 
(qIx s4 s6 fun v72 =>
qLss X 5 v72 (.int .u8 32) fun v73 =>
qG v73 false (fun k => k s4 H) H fun v75 H =>
qG v73 false (fun k => k s6 H) H fun v76 H =>
qG v73 false (fun k => qIx v75 v76 fun v => k v H) H fun v77 H =>
qG v73 false (fun k => qEql X 5 v77 (.int .u8 34) fun v => k v H) H fun v78 H =>
qPick v73 (.bool true) v78 fun v79 =>
k [s0, s2, s3, s4, s5, s6, s7, s8, s29, s38, s48, s61, v79] H : R))
noncomputable def r129_8 (k : KT R) : KT R := fun fr H => opn 13 fr (fun s0 s2 s3 s4 s5 s6 s7 s8 s29 s38 s48 s61 s69 => 
(qIx s4 s6 fun v51 =>
qEql X 5 v51 (.int .u8 92) fun v52 =>
k [s0, s2, s3, s4, s5, s6, s7, s8, s29, s38, v52, s61, s69] H : R))
noncomputable def r129_6 (k : KT R) : KT R := fun fr H => opn 13 fr (fun s0 s2 s3 s4 s5 s6 s7 s8 s29 s38 s48 s61 s69 => 
(qLenS s4 fun v37 =>
qLss X 3 s6 v37 fun v38 =>
k [s0, s2, s3, s4, s5, s6, s7, s8, s29, v38, s48, s61, s69] H : R))
noncomputable def l129_8 (C : CallF) (k1 : KT R) (kr : KT R) : KT R → KT R := fun k2 => (r129_6 (qCd (sel 9) (fun k8 => k8) (fun _ => k1) (qBl (fun k3 => (qBl (fun k4 => (r129_8 (qCd (sel 10) (fun k5 => (r129_9 C (r129_10 (qCd (sel 11) (fun _ => (r129_11 kr)) (fun k6 => k6) (r129_12 k5))))) (fun k5 => (r129_13 (qCd (sel 12) (fun _ => (r129_14 kr)) (fun k7 => (r129_7 k7)) k5))) k4))) k3)) k2)))
noncomputable def r129_5 (k : KT R) : KT R := fun fr H => opn 13 fr (fun s0 s2 s3 s4 s5 s6 s7 s8 s29 s38 s48 s61 s69 => 
(k [s0, s2, s3, s4, s5, (.int .i64 0), s7, s8, s29, s38, s48, s61, s69] H : R))
noncomputable def r129_4 (k : KT R) : KT R := fun fr H => opn 13 fr (fun s0 s2 s3 s4 s5 s6 s7 s8 s29 s38 s48 s61 s69 => 
(k [s0, s2, s3, s4, (.str []), s6, s7, s8, s29, s38, s48, s61, s69] H : R))
noncomputable def r129_3 (k : KT R) : KT R := fun fr H => opn 13 fr (fun s0 s2 s3 s4 s5 s6 s7 s8 s29 s38 s48 s61 s69 => 
(qLenS s0 fun v32 =>
qSub X 3 v32 (.int .i64 1) fun v33 =>
qSlc Try.t9.desc 0 s0 (some (.int .i64 1)) (some v33) none fun v34 =>
k [s0, s2, s3, v34, s5, s6, s7, s8, s29, s38, s48, s61, s69] H : R))
noncomputable def r129_2 (k : KT R) : KT R := fun fr H => opn 13 fr (fun s0 s2 s3 s4 s5 s6 s7 s8 s29 s38 s48 s61 s69 => 
(k [s0, (.str []), (.bool false), s4, s5, s6, s7, s8, s29, s38, s48, s61, s69] H : R))
noncomputable def r129_1 (C : CallF) (k : KT R) : KT R := fun fr H => opn 13 fr (fun s0 s2 s3 s4 s5 s6 s7 s8 s29 s38 s48 s61 s69 => 
(qLenS s0 fun v10 =>
qLss X 3 v10 (.int .i64 2) fun v11 =>
qG v11 false (fun k => k s0 H) H fun v13 H =>
qG v11 false (fun k => qIx v13 (.int .i64 0) fun v => k v H) H fun v14 H =>
qG v11 false (fun k => qNeq X 5 v14 (.int .u8 34) fun v => k v H) H fun v15 H =>
qPick v11 (.bool true) v15 fun v16 =>
qG v16 false (fun k => k s0 H) H fun v18 H =>
qG v16 false (fun k => k s0 H) H fun v19 H =>
qG v16 false (fun k => qLenS v19 fun v => k v H) H fun v20 H =>
qG v16 false (fun k => qSub X 3 v20 (.int .i64 1) fun v => k v H) H fun v21 H =>
qG v16 false (fun k => qIx v18 v21 fun v => k v H) H fun v22 H =>
qG v16 false (fun k => qNeq X 5 v22 (.int .u8 34) fun v => k v H) H fun v23 H =>
qPick v16 (.bool true) v23 fun v24 =>
qG v24 false (fun k => k s0 H) H fun v26 H =>
qG v24 false (fun k => qRes (C 152 [v26] H) k) H fun v27 H =>
qG v24 false (fun k => qNot v27 fun v => k v H) H fun v28 H =>
qPick v24 (.bool true) v28 fun v29 =>
k [s0, s2, s3, s4, s5, s6, s7, s8, v29, s38, s48, s61, s69] H : R))
noncomputable def r129_0 (k : KT R) : KT R := fun fr H => opn 13 fr (fun s0 s2 s3 s4 s5 s6 s7 s8 s29 s38 s48 s61 s69 => 
(k [s0, (.str []), (.bool false), s4, s5, s6, s7, s8, s29, s38, s48, s61, s69] H : R))
noncomputable def c129 (C : CallF) (l0 : List AV) (H : AH) (k : AV → AH → R) : R := opn 1 l0 (fun x0 => (qFn (fun kr => (r129_0 (r129_1 C (qCd (sel 8) (fun _ => (r129_2 kr)) (fun k9 => k9) (r129_3 (r129_4 (r129_5 (qBl (fun k1 => (qLoop (l129_8 C k1 kr))) (r129_15 kr)))))))))
(fun fr H => k (.tup [(sel 1 fr), (sel 2 fr)]) H) [x0, undef, undef, undef, undef, undef, undef, undef, undef, undef, undef, undef, undef] H : R))
/- refectory/refectoryref05.Type -/
noncomputable def r130_5 (k : KT R) : KT R := fun fr H => opn 9 fr (fun s0 s1 s4 s5 s6 s7 s8 s9 s20 => 
(qLdA 2 s8 H fun v23 =>
qNc s7 fun v25 =>
qFa 1 v25 fun v26 =>
qLd v26 H fun v27 =>
qSt 2 s4 v23 H fun _ H =>
qLd v26 H fun w => qSame v27 w (k [s0, s1, s4, v27, (.bool true), s7, s8, s9, s20] H) : R))
noncomputable def r130_4 (k : KT R) : KT R := fun fr H => opn 9 fr (fun s0 s1 s4 s5 s6 s7 s8 s9 s20 => 
(qBld z115 [] fun v21 =>
qSt 2 s4 v21 H fun _ H =>
k [s0, s1, s4, s1, (.bool false), s7, s8, s9, s20] H : R))
noncomputable def r130_3 (k : KT R) : KT R := fun fr H => opn 9 fr (fun s0 s1 s4 s5 s6 s7 s8 s9 s20 => 
(qNot s9 fun v20 =>
k [s0, s1, s4, s5, s6, s7, s8, s9, v20] H : R))
noncomputable def r130_2 (C : CallF) (k : KT R) : KT R := fun fr H => opn 9 fr (fun s0 s1 s4 s5 s6 s7 s8 s9 s20 => 
(qRes (C 154 [s7, (.int .i64 0)] H) fun v16 H =>
qExt v16 0 fun v17 =>
qExt v16 1 fun v18 =>
qNew (.cells z115) .ptr H fun v8 H =>
qSt 2 v8 v17 H fun _ H =>
k [s0, s1, s4, s5, s6, s7, v8, v18, s20] H : R))
noncomputable def r130_1 (k : KT R) : KT R := fun fr H => opn 9 fr (fun s0 s1 s4 s5 s6 s7 s8 s9 s20 => 
(qBld z93 [(0, 1, s0), (1, 1, s1)] fun v12 =>
qBox v12 H fun v13 H =>
k [s0, s1, s4, s5, s6, v13, s8, s9, s20] H : R))
noncomputable def r130_0 (k : KT R) : KT R := fun fr H => opn 9 fr (fun s0 s1 s4 s5 s6 s7 s8 s9 s20 => 
(qNew (.cells z115) .ptr H fun v4 H =>
k [s0, s1, v4, (.int .i64 0), (.bool false), s7, s8, s9, s20] H : R))
noncomputable def c130 (C : CallF) (l0 : List AV) (H : AH) (k : AV → AH → R) : R := opn 2 l0 (fun x0 x1 => (qFn (fun kr => (r130_0 (r130_1 (r130_2 C (r130_3 (qCd (sel 8) (fun _ => (r130_4 kr)) (fun k1 => k1) (r130_5 kr)))))))
(fun fr H => qPtr (sel 2 fr) (qLdA 2 (sel 2 fr) H fun w0 => k (.tup [w0, (sel 3 fr), (sel 4 fr)]) H)) [x0, x1, undef, undef, undef, undef, undef, undef, undef] H : R))
/- refectory/refectoryref05.word -/
noncomputable def r131_7 (k : KT R) : KT R := fun fr H => opn 5 fr (fun s0 s2 s3 s4 s9 => 
(qBld z30 [(0, 1, (.int .i64 6)), (1, 1, s0)] fun v13 =>
qSt 4 s2 v13 H fun _ H =>
k [s0, s2, s3, s4, s9] H : R))
noncomputable def r131_4 (k : KT R) : KT R := fun fr H => opn 5 fr (fun s0 s2 s3 s4 s9 => 
(qBld z30 [(0, 1, (.int .i64 2)), (1, 1, s0)] fun v8 =>
qSt 4 s2 v8 H fun _ H =>
k [s0, s2, s3, s4, s9] H : R))
noncomputable def r131_6 (k : KT R) : KT R := fun fr H => opn 5 fr (fun s0 s2 s3 s4 s9 => 
(qBld z30 [(0, 1, (.int .i64 1))] fun v11 =>
qSt 4 s2 v11 H fun _ H =>
k [s0, s2, s3, s4, s9] H : R))
noncomputable def r131_5 (k : KT R) : KT R := fun fr H => opn 5 fr (fun s0 s2 s3 s4 s9 => 
(qEql X 9 s3 (.str [110,117,108,108]) fun v10 =>
k [s0, s2, s3, s4, v10] H : R))
noncomputable def r131_3 (k : KT R) : KT R := fun fr H => opn 5 fr (fun s0 s2 s3 s4 s9 => 
(qEql X 9 s3 (.str [102,97,108,115,101]) fun v6 =>
k [s0, s2, s3, v6, s9] H : R))
noncomputable def r131_2 (k : KT R) : KT R := fun fr H => opn 5 fr (fun s0 s2 s3 s4 s9 => 
(qEql X 9 s3 (.str [116,114,117,101]) fun v5 =>
k [s0, s2, s3, v5, s9] H : R))
noncomputable def r131_1 (k : KT R) : KT R := fun fr H => opn 5 fr (fun s0 s2 s3 s4 s9 => 
(k [s0, s2, s0, s4, s9] H : R))
noncomputable def r131_0 (k : KT R) : KT R := fun fr H => opn 5 fr (fun s0 s2 s3 s4 s9 => 
(qNew (.cells z30) .ptr H fun v2 H =>
k [s0, v2, s3, s4, s9] H : R))
noncomputable def c131 (C : CallF) (l0 : List AV) (H : AH) (k : AV → AH → R) : R := opn 1 l0 (fun x0 => (qFn (fun kr => (r131_0 (r131_1 (qBl (fun k1 => (r131_2 (qCd (sel 3) (fun k4 => k4) (fun k4 => (r131_3 k4)) (qCd (sel 3) (fun _ => (r131_4 kr)) (fun k2 => (r131_5 (qCd (sel 4) (fun _ => (r131_6 kr)) (fun k3 => k3) k2))) k1)))) (r131_7 kr)))))
(fun fr H => qPtr (sel 1 fr) (qLdA 4 (sel 1 fr) H fun w0 => k w0 H)) [x0, undef, undef, undef, undef] H : R))
/- (*refectory/refectoryref05.P).many -/
noncomputable def r132_9 (k : KT R) : KT R := fun fr H => opn 10 fr (fun s0 s1 s2 s3 s4 s10 s11 s15 s29 s31 => 
(qLdA 4 s11 H fun v50 =>
qSt 4 s10 v50 H fun _ H =>
k [s0, s1, s2, s3, s4, s10, s11, s15, s29, s31] H : R))
noncomputable def r132_8 (C : CallF) (k : KT R) : KT R := fun fr H => opn 10 fr (fun s0 s1 s2 s3 s4 s10 s11 s15 s29 s31 => 
(qFa 3 s11 fun v41 =>
qLd v41 H fun v42 =>
qAdd X 3 s3 (.int .i64 1) fun v45 =>
qRes (C 102 [s0, v45] H) fun v46 H =>
qLd v41 H fun w => qSame v42 w (qRows z30 1 [(0, v46)] fun v47 =>
qApp 4 72 v42 v47 false H fun v48 H =>
qFa 3 s11 fun v49 =>
qSt 1 v49 v48 H fun _ H =>
k [s0, s1, s2, s3, s4, s10, s11, s15, s29, s31] H) : R))
noncomputable def r132_7 (C : CallF) (k : KT R) : KT R := fun fr H => opn 10 fr (fun s0 s1 s2 s3 s4 s10 s11 s15 s29 s31 => 
(qRes (C 85 [s0, (.str [58])] H) fun v40 H =>
k [s0, s1, s2, s3, s4, s10, s11, s15, s29, s31] H : R))
noncomputable def r132_6 (C : CallF) (k : KT R) : KT R := fun fr H => opn 10 fr (fun s0 s1 s2 s3 s4 s10 s11 s15 s29 s31 => 
(qFa 2 s11 fun v32 =>
qLd v32 H fun v33 =>
qRes (C 57 [s0] H) fun v35 H =>
qLd v32 H fun w => qSame v33 w (qRows z9 1 [(0, v35)] fun v36 =>
qApp 1 16 v33 v36 false H fun v37 H =>
qFa 2 s11 fun v38 =>
qSt 1 v38 v37 H fun _ H =>
k [s0, s1, s2, s3, s4, s10, s11, s15, s29, s31] H) : R))
noncomputable def r132_5 (k : KT R) : KT R := fun fr H => opn 10 fr (fun s0 s1 s2 s3 s4 s10 s11 s15 s29 s31 => 
(qEql X 3 s1 (.int .i64 8) fun v31 =>
k [s0, s1, s2, s3, s4, s10, s11, s15, s29, v31] H : R))
noncomputable def r132_4 (C : CallF) (k : KT R) : KT R := fun fr H => opn 10 fr (fun s0 s1 s2 s3 s4 s10 s11 s15 s29 s31 => 
(qNc s0 fun v20 =>
qFa 2 v20 fun v21 =>
qLd v21 H fun v22 =>
qEql X 57 v22 (.int .i64 0) fun v23 =>
qG v23 true (fun k => k s0 H) H fun v25 H =>
qG v23 true (fun k => k s2 H) H fun v26 H =>
qG v23 true (fun k => qRes (C 48 [v25, (.int .i64 5), v26] H) k) H fun v27 H =>
qG v23 true (fun k => qNot v27 fun v => k v H) H fun v28 H =>
qPick v23 v28 (.bool false) fun v29 =>
k [s0, s1, s2, s3, s4, s10, s11, s15, v29, s31] H : R))
noncomputable def l132_5 (C : CallF) (k1 : KT R) : KT R → KT R := fun k2 => (r132_4 C (qCd (sel 8) (fun k5 => k5) (fun _ => k1) (qBl (fun k3 => (r132_5 (qCd (sel 9) (fun k4 => (r132_6 C (r132_7 C k4))) (fun k4 => k4) (r132_8 C k3)))) k2)))
noncomputable def r132_3 (C : CallF) (k : KT R) : KT R := fun fr H => opn 10 fr (fun s0 s1 s2 s3 s4 s10 s11 s15 s29 s31 => 
(qRes (C 100 [s0, (.int .i64 4), s4] H) fun v18 H =>
k [s0, s1, s2, s3, s4, s10, s11, s15, s29, s31] H : R))
noncomputable def r132_2 (k : KT R) : KT R := fun fr H => opn 10 fr (fun s0 s1 s2 s3 s4 s10 s11 s15 s29 s31 => 
(qGtr X 3 s3 (.int .i64 12) fun v15 =>
k [s0, s1, s2, s3, s4, s10, s11, v15, s29, s31] H : R))
noncomputable def r132_1 (k : KT R) : KT R := fun fr H => opn 10 fr (fun s0 s1 s2 s3 s4 s10 s11 s15 s29 s31 => 
(qBld z30 [(0, 1, s1)] fun v13 =>
qNew (.cells z30) .ptr H fun v11 H =>
qSt 4 v11 v13 H fun _ H =>
k [s0, s1, s2, s3, s4, s10, v11, s15, s29, s31] H : R))
noncomputable def r132_0 (k : KT R) : KT R := fun fr H => opn 10 fr (fun s0 s1 s2 s3 s4 s10 s11 s15 s29 s31 => 
(qNew (.cells z30) .ptr H fun v10 H =>
k [s0, s1, s2, s3, s4, v10, s11, s15, s29, s31] H : R))
noncomputable def c132 (C : CallF) (l0 : List AV) (H : AH) (k : AV → AH → R) : R := opn 5 l0 (fun x0 x1 x2 x3 x4 => (qFn (fun kr => (r132_0 (r132_1 (r132_2 (qCd (sel 7) (fun k6 => (r132_3 C k6)) (fun k6 => k6) (qBl (fun k1 => (qLoop (l132_5 C k1))) (r132_9 kr)))))))
(fun fr H => qPtr (sel 5 fr) (qLdA 4 (sel 5 fr) H fun w0 => k w0 H)) [x0, x1, x2, x3, x4, undef, undef, undef, undef, undef] H : R))
/- slices.IndexFunc[[]refectory/api.Sel,refectory/api.Sel] -/
noncomputable def r133_7 (k : KT R) : KT R := fun fr H => opn 8 fr (fun s0 s1 s4 s5 s7 s8 s9 s16 => 
(k [s0, s1, (.int .i64 (-1)), s5, s7, s8, s9, s16] H : R))
noncomputable def r133_6 (k : KT R) : KT R := fun fr H => opn 8 fr (fun s0 s1 s4 s5 s7 s8 s9 s16 => 
(qAdd X 3 s8 (.int .i64 1) fun v18 =>
k [s0, s1, s4, s5, s7, v18, s9, s16] H : R))
noncomputable def r133_5 (k : KT R) : KT R := fun fr H => opn 8 fr (fun s0 s1 s4 s5 s7 s8 s9 s16 => 
(k [s0, s1, s5, s5, s7, s8, s9, s16] H : R))
noncomputable def r133_4 (C : CallF) (k : KT R) : KT R := fun fr H => opn 8 fr (fun s0 s1 s4 s5 s7 s8 s9 s16 => 
(qIa 7 s0 s5 fun v14 =>
qLdA 7 v14 H fun v15 =>
qCallV C s1 [v15] H fun v16 H =>
k [s0, s1, s4, s5, s7, s8, s9, v16] H : R))
noncomputable def r133_3 (k : KT R) : KT R := fun fr H => opn 8 fr (fun s0 s1 s4 s5 s7 s8 s9 s16 => 
(k [s0, s1, s4, s8, s7, s8, s9, s16] H : R))
noncomputable def r133_2 (k : KT R) : KT R := fun fr H => opn 8 fr (fun s0 s1 s4 s5 s7 s8 s9 s16 => 
(qLss X 3 s8 s7 fun v9 =>
k [s0, s1, s4, s5, s7, s8, v9, s16] H : R))
noncomputable def l133_5 (C : CallF) (k1 : KT R) (kr : KT R) : KT R → KT R := fun k2 => (r133_2 (qCd (sel 6) (fun k5 => k5) (fun _ => k1) (qBl (fun k3 => (r133_3 (r133_4 C (qCd (sel 7) (fun _ => (r133_5 kr)) (fun k4 => k4) k3)))) (r133_6 k2))))
noncomputable def r133_1 (k : KT R) : KT R := fun fr H => opn 8 fr (fun s0 s1 s4 s5 s7 s8 s9 s16 => 
(qLenL s0 fun v7 =>
k [s0, s1, s4, s5, v7, (.int .i64 0), s9, s16] H : R))
noncomputable def r133_0 (k : KT R) : KT R := fun fr H => opn 8 fr (fun s0 s1 s4 s5 s7 s8 s9 s16 => 
(k [s0, s1, (.int .i64 0), s5, s7, s8, s9, s16] H : R))
noncomputable def c133 (C : CallF) (l0 : List AV) (H : AH) (k : AV → AH → R) : R := opn 2 l0 (fun x0 x1 => (qFn (fun kr => (r133_0 (r133_1 (qBl (fun k1 => (qLoop (l133_5 C k1 kr))) (r133_7 kr)))))
(fun fr H => k (sel 2 fr) H) [x0, x1, undef, undef, undef, undef, undef, undef] H : R))
/- slices.ContainsFunc[[]string,string] -/
noncomputable def r134_1 (C : CallF) (k : KT R) : KT R := fun fr H => opn 3 fr (fun s0 s1 s4 => 
(qRes (C 155 [s0, s1] H) fun v7 H =>
qGeq X 3 v7 (.int .i64 0) fun v8 =>
k [s0, s1, v8] H : R))
noncomputable def r134_0 (k : KT R) : KT R := fun fr H => opn 3 fr (fun s0 s1 s4 => 
(k [s0, s1, (.bool false)] H : R))
noncomputable def c134 (C : CallF) (l0 : List AV) (H : AH) (k : AV → AH → R) : R := opn 2 l0 (fun x0 x1 => (qFn (fun kr => (r134_0 (r134_1 C kr)))
(fun fr H => k (sel 2 fr) H) [x0, x1, undef] H : R))
/- refectory/schema.Meets$1 -/
noncomputable def r135_1 (C : CallF) (k : KT R) : KT R := fun fr H => opn 3 fr (fun s0 s1 s3 => 
(qLd s1 H fun v4 =>
qRes (C 71 [v4, s0] H) fun v6 H =>
k [s0, s1, v6] H : R))
noncomputable def r135_0 (k : KT R) : KT R := fun fr H => opn 3 fr (fun s0 s1 s3 => 
(k [s0, s1, (.bool false)] H : R))
noncomputable def c135 (C : CallF) (l0 : List AV) (H : AH) (k : AV → AH → R) : R := opn 2 l0 (fun x0 x1 => (qFn (fun kr => (r135_0 (r135_1 C kr)))
(fun fr H => k (sel 2 fr) H) [x0, x1, undef] H : R))
/- slices.IndexFunc[[]refectory/api.FieldDef,refectory/api.FieldDef] -/
noncomputable def r136_7 (k : KT R) : KT R := fun fr H => opn 8 fr (fun s0 s1 s4 s5 s7 s8 s9 s16 => 
(k [s0, s1, (.int .i64 (-1)), s5, s7, s8, s9, s16] H : R))
noncomputable def r136_6 (k : KT R) : KT R := fun fr H => opn 8 fr (fun s0 s1 s4 s5 s7 s8 s9 s16 => 
(qAdd X 3 s8 (.int .i64 1) fun v18 =>
k [s0, s1, s4, s5, s7, v18, s9, s16] H : R))
noncomputable def r136_5 (k : KT R) : KT R := fun fr H => opn 8 fr (fun s0 s1 s4 s5 s7 s8 s9 s16 => 
(k [s0, s1, s5, s5, s7, s8, s9, s16] H : R))
noncomputable def r136_4 (C : CallF) (k : KT R) : KT R := fun fr H => opn 8 fr (fun s0 s1 s4 s5 s7 s8 s9 s16 => 
(qIa 5 s0 s5 fun v14 =>
qLdA 5 v14 H fun v15 =>
qCallV C s1 [v15] H fun v16 H =>
k [s0, s1, s4, s5, s7, s8, s9, v16] H : R))
noncomputable def r136_3 (k : KT R) : KT R := fun fr H => opn 8 fr (fun s0 s1 s4 s5 s7 s8 s9 s16 => 
(k [s0, s1, s4, s8, s7, s8, s9, s16] H : R))
noncomputable def r136_2 (k : KT R) : KT R := fun fr H => opn 8 fr (fun s0 s1 s4 s5 s7 s8 s9 s16 => 
(qLss X 3 s8 s7 fun v9 =>
k [s0, s1, s4, s5, s7, s8, v9, s16] H : R))
noncomputable def l136_5 (C : CallF) (k1 : KT R) (kr : KT R) : KT R → KT R := fun k2 => (r136_2 (qCd (sel 6) (fun k5 => k5) (fun _ => k1) (qBl (fun k3 => (r136_3 (r136_4 C (qCd (sel 7) (fun _ => (r136_5 kr)) (fun k4 => k4) k3)))) (r136_6 k2))))
noncomputable def r136_1 (k : KT R) : KT R := fun fr H => opn 8 fr (fun s0 s1 s4 s5 s7 s8 s9 s16 => 
(qLenL s0 fun v7 =>
k [s0, s1, s4, s5, v7, (.int .i64 0), s9, s16] H : R))
noncomputable def r136_0 (k : KT R) : KT R := fun fr H => opn 8 fr (fun s0 s1 s4 s5 s7 s8 s9 s16 => 
(k [s0, s1, (.int .i64 0), s5, s7, s8, s9, s16] H : R))
noncomputable def c136 (C : CallF) (l0 : List AV) (H : AH) (k : AV → AH → R) : R := opn 2 l0 (fun x0 x1 => (qFn (fun kr => (r136_0 (r136_1 (qBl (fun k1 => (qLoop (l136_5 C k1 kr))) (r136_7 kr)))))
(fun fr H => k (sel 2 fr) H) [x0, x1, undef, undef, undef, undef, undef, undef] H : R))
/- refectory/schema.Field$1 -/
noncomputable def r137_1 (k : KT R) : KT R := fun fr H => opn 4 fr (fun s0 s1 s2 s3 => 
(qFa 0 s2 fun v4 =>
qLd v4 H fun v5 =>
qLd s1 H fun v6 =>
qEql X 9 v5 v6 fun v7 =>
k [s0, s1, s2, v7] H : R))
noncomputable def r137_0 (k : KT R) : KT R := fun fr H => opn 4 fr (fun s0 s1 s2 s3 => 
(qBox s0 H fun v2 H =>
k [s0, s1, v2, (.bool false)] H : R))
noncomputable def c137 (C : CallF) (l0 : List AV) (H : AH) (k : AV → AH → R) : R := opn 2 l0 (fun x0 x1 => (qFn (fun kr => (r137_0 (r137_1 kr)))
(fun fr H => k (sel 3 fr) H) [x0, x1, undef, undef] H : R))
/- refectory/refectoryref09.Bare -/
noncomputable def r138_3 (k : KT R) : KT R := fun fr H => opn 4 fr (fun s0 s1 s2 s5 => 
(qLdA 2 s1 H fun v8 =>
qSt 2 s2 v8 H fun _ H =>
k [s0, s1, s2, s5] H : R))
noncomputable def r138_2 (C : CallF) (k : KT R) : KT R := fun fr H => opn 4 fr (fun s0 s1 s2 s5 => 
(qLdA 2 s1 H fun v6 =>
qRes (C 139 [v6] H) fun v7 H =>
qSt 2 s2 v7 H fun _ H =>
k [s0, s1, s2, s5] H : R))
noncomputable def r138_1 (C : CallF) (k : KT R) : KT R := fun fr H => opn 4 fr (fun s0 s1 s2 s5 => 
(qLdA 2 s1 H fun v3 =>
qRes (C 114 [v3] H) fun v4 H =>
qEql X 5 v4 (.int .u8 33) fun v5 =>
k [s0, s1, s2, v5] H : R))
noncomputable def r138_0 (k : KT R) : KT R := fun fr H => opn 4 fr (fun s0 s1 s2 s5 => 
(qBox s0 H fun v1 H =>
qNew (.cells z115) .ptr H fun v2 H =>
k [s0, v1, v2, s5] H : R))
noncomputable def c138 (C : CallF) (l0 : List AV) (H : AH) (k : AV → AH → R) : R := opn 1 l0 (fun x0 => (qFn (fun kr => (r138_0 (r138_1 C (qCd (sel 3) (fun _ => (r138_2 C kr)) (fun k1 => k1) (r138_3 kr)))))
(fun fr H => qPtr (sel 2 fr) (qLdA 2 (sel 2 fr) H fun w0 => k w0 H)) [x0, undef, undef, undef] H : R))
/- refectory/refectoryref09.Inner -/
noncomputable def r139_3 (k : KT R) : KT R := fun fr H => opn 4 fr (fun s0 s1 s2 s5 => 
(qFa 0 s1 fun v7 =>
qLd v7 H fun v8 =>
qFa 1 s1 fun v9 =>
qLd v9 H fun v10 =>
qFa 1 s1 fun v11 =>
qLd v11 H fun v12 =>
qLenS v12 fun v13 =>
qSub X 3 v13 (.int .i64 1) fun v14 =>
qSlc Try.t9.desc 0 v10 none (some v14) none fun v15 =>
qBld z115 [(0, 1, v8), (1, 1, v15)] fun v16 =>
qSt 2 s2 v16 H fun _ H =>
k [s0, s1, s2, s5] H : R))
noncomputable def r139_2 (k : KT R) : KT R := fun fr H => opn 4 fr (fun s0 s1 s2 s5 => 
(qLdA 2 s1 H fun v6 =>
qSt 2 s2 v6 H fun _ H =>
k [s0, s1, s2, s5] H : R))
noncomputable def r139_1 (k : KT R) : KT R := fun fr H => opn 4 fr (fun s0 s1 s2 s5 => 
(qFa 1 s1 fun v3 =>
qLd v3 H fun v4 =>
qEql X 9 v4 (.str []) fun v5 =>
k [s0, s1, s2, v5] H : R))
noncomputable def r139_0 (k : KT R) : KT R := fun fr H => opn 4 fr (fun s0 s1 s2 s5 => 
(qBox s0 H fun v1 H =>
qNew (.cells z115) .ptr H fun v2 H =>
k [s0, v1, v2, s5] H : R))
noncomputable def c139 (C : CallF) (l0 : List AV) (H : AH) (k : AV → AH → R) : R := opn 1 l0 (fun x0 => (qFn (fun kr => (r139_0 (r139_1 (qCd (sel 3) (fun _ => (r139_2 kr)) (fun k1 => k1) (r139_3 kr)))))
(fun fr H => qPtr (sel 2 fr) (qLdA 2 (sel 2 fr) H fun w0 => k w0 H)) [x0, undef, undef, undef] H : R))
/- refectory/refectorylaw00.num -/
noncomputable def r140_1 (C : CallF) (k : KT R) : KT R := fun fr H => opn 2 fr (fun s0 s2 => 
(qRes (C 17 [s0] H) fun v4 H =>
qBld z30 [(0, 1, (.int .i64 3)), (1, 1, v4)] fun v5 =>
qSt 4 s2 v5 H fun _ H =>
k [s0, s2] H : R))
noncomputable def r140_0 (k : KT R) : KT R := fun fr H => opn 2 fr (fun s0 s2 => 
(qNew (.cells z30) .ptr H fun v2 H =>
k [s0, v2] H : R))
noncomputable def c140 (C : CallF) (l0 : List AV) (H : AH) (k : AV → AH → R) : R := opn 1 l0 (fun x0 => (qFn (fun kr => (r140_0 (r140_1 C kr)))
(fun fr H => qPtr (sel 1 fr) (qLdA 4 (sel 1 fr) H fun w0 => k w0 H)) [x0, undef] H : R))
/- (*refectory/merge.search).leaf -/
noncomputable def r141_2 (k : KT R) : KT R := fun fr H => opn 5 fr (fun s0 s1 s3 s4 s5 => 
(qEql X 3 s5 (.int .i64 1) fun v14 =>
qG v14 false (fun k => k s5 H) H fun v16 H =>
qG v14 false (fun k => qEql X 3 v16 (.int .i64 5) fun v => k v H) H fun v17 H =>
qPick v14 (.bool true) v17 fun v18 =>
k [s0, s1, s3, v18, s5] H : R))
noncomputable def r141_1 (C : CallF) (k : KT R) : KT R := fun fr H => opn 5 fr (fun s0 s1 s3 s4 s5 => 
(qNc s0 fun v7 =>
qFa 0 v7 fun v8 =>
qLdA 3 v8 H fun v9 =>
qFa 0 s3 fun v10 =>
qLd v10 H fun v11 =>
qRes (C 104 [v9, v11] H) fun v12 H =>
k [s0, s1, s3, s4, v12] H : R))
noncomputable def r141_0 (k : KT R) : KT R := fun fr H => opn 5 fr (fun s0 s1 s3 s4 s5 => 
(qBox s1 H fun v3 H =>
k [s0, s1, v3, (.bool false), s5] H : R))
noncomputable def c141 (C : CallF) (l0 : List AV) (H : AH) (k : AV → AH → R) : R := opn 2 l0 (fun x0 x1 => (qFn (fun kr => (r141_0 (r141_1 C (r141_2 kr))))
(fun fr H => k (sel 3 fr) H) [x0, x1, undef, undef, undef] H : R))
/- (*refectory/merge.search).apart -/
noncomputable def r142_1 (C : CallF) (k : KT R) : KT R := fun fr H => opn 4 fr (fun s0 s1 s2 s6 => 
(qNeq X 9 s1 s2 fun v9 =>
qG v9 true (fun k => k s0 H) H fun v11 H =>
qG v9 true (fun k => qNc v11 fun v => k v H) H fun v12 H =>
qG v9 true (fun k => qFa 0 v12 fun v => k v H) H fun v13 H =>
qG v9 true (fun k => qLdA 3 v13 H fun v => k v H) H fun v14 H =>
qG v9 true (fun k => k s1 H) H fun v15 H =>
qG v9 true (fun k => qRes (C 104 [v14, v15] H) k) H fun v16 H =>
qG v9 true (fun k => qEql X 3 v16 (.int .i64 2) fun v => k v H) H fun v17 H =>
qPick v9 v17 (.bool false) fun v18 =>
qG v18 true (fun k => k s0 H) H fun v20 H =>
qG v18 true (fun k => qNc v20 fun v => k v H) H fun v21 H =>
qG v18 true (fun k => qFa 0 v21 fun v => k v H) H fun v22 H =>
qG v18 true (fun k => qLdA 3 v22 H fun v => k v H) H fun v23 H =>
qG v18 true (fun k => k s2 H) H fun v24 H =>
qG v18 true (fun k => qRes (C 104 [v23, v24] H) k) H fun v25 H =>
qG v18 true (fun k => qEql X 3 v25 (.int .i64 2) fun v => k v H) H fun v26 H =>
qPick v18 v26 (.bool false) fun v27 =>
k [s0, s1, s2, v27] H : R))
noncomputable def r142_0 (k : KT R) : KT R := fun fr H => opn 4 fr (fun s0 s1 s2 s6 => 
(k [s0, s1, s2, (.bool false)] H : R))
noncomputable def c142 (C : CallF) (l0 : List AV) (H : AH) (k : AV → AH → R) : R := opn 3 l0 (fun x0 x1 x2 => (qFn (fun kr => (r142_0 (r142_1 C kr)))
(fun fr H => k (sel 3 fr) H) [x0, x1, x2, undef] H : R))
/- refectory/merge.args -/
noncomputable def r143_17 (k : KT R) : KT R := fun fr H => opn 17 fr (fun s0 s1 s4 s5 s7 s8 s9 s14 s16 s17 s18 s19 s23 s24 s25 s54 s59 => 
(k [s0, s1, (.bool true), s5, s7, s8, s9, s14, s16, s17, s18, s19, s23, s24, s25, s54, s59] H : R))
noncomputable def r143_16 (k : KT R) : KT R := fun fr H => opn 17 fr (fun s0 s1 s4 s5 s7 s8 s9 s14 s16 s17 s18 s19 s23 s24 s25 s54 s59 => 
(qAdd X 3 s18 (.int .i64 1) fun v60 =>
k [s0, s1, s4, s5, s7, s8, s9, s14, s16, s17, v60, s19, s23, s24, s25, s54, s59] H : R))
noncomputable def r143_15 (k : KT R) : KT R := fun fr H => opn 17 fr (fun s0 s1 s4 s5 s7 s8 s9 s14 s16 s17 s18 s19 s23 s24 s25 s54 s59 => 
(k [s0, s1, (.bool false), s5, s7, s8, s9, s14, s16, s17, s18, s19, s23, s24, s25, s54, s59] H : R))
noncomputable def r143_14 (k : KT R) : KT R := fun fr H => opn 17 fr (fun s0 s1 s4 s5 s7 s8 s9 s14 s16 s17 s18 s19 s23 s24 s25 s54 s59 => 
(qNot s8 fun v59 =>
k [s0, s1, s4, s5, s7, s8, s9, s14, s16, s17, s18, s19, s23, s24, s25, s54, v59] H : R))
noncomputable def r143_13 (k : KT R) : KT R := fun fr H => opn 17 fr (fun s0 s1 s4 s5 s7 s8 s9 s14 s16 s17 s18 s19 s23 s24 s25 s54 s59 => 
(qAdd X 3 s24 (.int .i64 1) fun v57 =>
k [s0, s1, s4, s5, s7, s8, s9, s14, s16, s17, s18, s19, s23, v57, s25, s54, s59] H : R))
noncomputable def r143_12 (k : KT R) : KT R := fun fr H => opn 17 fr (fun s0 s1 s4 s5 s7 s8 s9 s14 s16 s17 s18 s19 s23 s24 s25 s54 s59 => 
(qMset X 232 s5 s9 (.bool true) H fun _ H =>
k [s0, s1, s4, s5, s7, (.bool true), s9, s14, s16, s17, s18, s19, s23, s24, s25, s54, s59] H : R))
noncomputable def r143_11 (C : CallF) (k : KT R) : KT R := fun fr H => opn 17 fr (fun s0 s1 s4 s5 s7 s8 s9 s14 s16 s17 s18 s19 s23 s24 s25 s54 s59 => 
(qNot s8 fun v28 =>
qG v28 true (fun k => k s5 H) H fun v30 H =>
qG v28 true (fun k => k s9 H) H fun v31 H =>
qG v28 true (fun k => qO (lookup X 232 v30 v31 false H) fun v => k v H) H fun v32 H =>
qG v28 true (fun k => qNot v32 fun v => k v H) H fun v33 H =>
qPick v28 v33 (.bool false) fun v34 =>
qG v34 true (fun k => k s1 H) H fun v36 H =>
qG v34 true (fun k => k s9 H) H fun v37 H =>
qG v34 true (fun k => qIa 5 v36 v37 fun v => k v H) H fun v38 H =>
qG v34 true (fun k => qFa 0 v38 fun v => k v H) H fun v39 H =>
qG v34 true (fun k => qLd v39 H fun v => k v H) H fun v40 H =>
qG v34 true (fun k => qFa 0 s7 fun v => k v H) H fun v41 H =>
qG v34 true (fun k => qLd v41 H fun v => k v H) H fun v42 H =>
qG v34 true (fun k => qEql X 9 v40 v42 fun v => k v H) H fun v43 H =>
qPick v34 v43 (.bool false) fun v44 =>
qG v44 true (fun k => k s1 H) H fun v46 H =>
qG v44 true (fun k => k s9 H) H fun v47 H =>
qG v44 true (fun k => qIa 5 v46 v47 fun v => k v H) H fun v48 H =>
qG v44 true (fun k => qFa 1 v48 fun v => k v H) H fun v49 H =>
qG v44 true (fun k => qLdA 4 v49 H fun v => k v H) H fun v50 H =>
qG v44 true (fun k => qFa 1 s7 fun v => k v H) H fun v51 H =>
qG v44 true (fun k => qLdA 4 v51 H fun v => k v H) H fun v52 H =>
qG v44 true (fun k => qRes (C 156 [v50, v52] H) k) H fun v53 H =>
qPick v44 v53 (.bool false) fun v54 =>
k [s0, s1, s4, s5, s7, s8, s9, s14, s16, s17, s18, s19, s23, s24, s25, v54, s59] H : R))
noncomputable def r143_10 (k : KT R) : KT R := fun fr H => opn 17 fr (fun s0 s1 s4 s5 s7 s8 s9 s14 s16 s17 s18 s19 s23 s24 s25 s54 s59 => 
(k [s0, s1, s4, s5, s7, s8, s24, s14, s16, s17, s18, s19, s23, s24, s25, s54, s59] H : R))
noncomputable def r143_9 (k : KT R) : KT R := fun fr H => opn 17 fr (fun s0 s1 s4 s5 s7 s8 s9 s14 s16 s17 s18 s19 s23 s24 s25 s54 s59 => 
(qLss X 3 s24 s23 fun v25 =>
k [s0, s1, s4, s5, s7, s8, s9, s14, s16, s17, s18, s19, s23, s24, v25, s54, s59] H : R))
noncomputable def l143_9 (C : CallF) (k5 : KT R) : KT R → KT R := fun k6 => (r143_9 (qCd (sel 14) (fun k9 => k9) (fun _ => k5) (qBl (fun k7 => (r143_10 (r143_11 C (qCd (sel 15) (fun k8 => (r143_12 k8)) (fun k8 => k8) k7)))) (r143_13 k6))))
noncomputable def r143_8 (k : KT R) : KT R := fun fr H => opn 17 fr (fun s0 s1 s4 s5 s7 s8 s9 s14 s16 s17 s18 s19 s23 s24 s25 s54 s59 => 
(qLenL s1 fun v23 =>
k [s0, s1, s4, s5, s7, s8, s9, s14, s16, s17, s18, s19, v23, (.int .i64 0), s25, s54, s59] H : R))
noncomputable def r143_7 (k : KT R) : KT R := fun fr H => opn 17 fr (fun s0 s1 s4 s5 s7 s8 s9 s14 s16 s17 s18 s19 s23 s24 s25 s54 s59 => 
(k [s0, s1, s4, s5, s7, (.bool false), s9, s14, s16, s17, s18, s19, s23, s24, s25, s54, s59] H : R))
noncomputable def r143_6 (k : KT R) : KT R := fun fr H => opn 17 fr (fun s0 s1 s4 s5 s7 s8 s9 s14 s16 s17 s18 s19 s23 s24 s25 s54 s59 => 
(qIa 5 s16 s18 fun v20 =>
qLdA 5 v20 H fun v21 =>
qNew (.cells z38) .ptr H fun v7 H =>
qSt 5 v7 v21 H fun _ H =>
k [s0, s1, s4, s5, v7, s8, s9, s14, s16, s17, s18, s19, s23, s24, s25, s54, s59] H : R))
noncomputable def r143_5 (k : KT R) : KT R := fun fr H => opn 17 fr (fun s0 s1 s4 s5 s7 s8 s9 s14 s16 s17 s18 s19 s23 s24 s25 s54 s59 => 
(qLss X 3 s18 s17 fun v19 =>
k [s0, s1, s4, s5, s7, s8, s9, s14, s16, s17, s18, v19, s23, s24, s25, s54, s59] H : R))
noncomputable def l143_10 (C : CallF) (k1 : KT R) (kr : KT R) : KT R → KT R := fun k2 => (r143_5 (qCd (sel 11) (fun k10 => k10) (fun _ => k1) (qBl (fun k3 => (r143_6 (r143_7 (r143_8 (qBl (fun k5 => (qLoop (l143_9 C k5))) (r143_14 (qCd (sel 16) (fun _ => (r143_15 kr)) (fun k4 => k4) k3))))))) (r143_16 k2))))
noncomputable def r143_4 (k : KT R) : KT R := fun fr H => opn 17 fr (fun s0 s1 s4 s5 s7 s8 s9 s14 s16 s17 s18 s19 s23 s24 s25 s54 s59 => 
(qLenL s0 fun v17 =>
k [s0, s1, s4, s5, s7, s8, s9, s14, s0, v17, (.int .i64 0), s19, s23, s24, s25, s54, s59] H : R))
noncomputable def r143_3 (k : KT R) : KT R := fun fr H => opn 17 fr (fun s0 s1 s4 s5 s7 s8 s9 s14 s16 s17 s18 s19 s23 s24 s25 s54 s59 => 
(qNew (.map []) .map H fun v15 H =>
k [s0, s1, s4, v15, s7, s8, s9, s14, s16, s17, s18, s19, s23, s24, s25, s54, s59] H : R))
noncomputable def r143_2 (k : KT R) : KT R := fun fr H => opn 17 fr (fun s0 s1 s4 s5 s7 s8 s9 s14 s16 s17 s18 s19 s23 s24 s25 s54 s59 => 
(k [s0, s1, (.bool false), s5, s7, s8, s9, s14, s16, s17, s18, s19, s23, s24, s25, s54, s59] H : R))
noncomputable def r143_1 (k : KT R) : KT R := fun fr H => opn 17 fr (fun s0 s1 s4 s5 s7 s8 s9 s14 s16 s17 s18 s19 s23 s24 s25 s54 s59 => 
(qLenL s0 fun v11 =>
qLenL s1 fun v13 =>
qNeq X 3 v11 v13 fun v14 =>
k [s0, s1, s4, s5, s7, s8, s9, v14, s16, s17, s18, s19, s23, s24, s25, s54, s59] H : R))
noncomputable def r143_0 (k : KT R) : KT R := fun fr H => opn 17 fr (fun s0 s1 s4 s5 s7 s8 s9 s14 s16 s17 s18 s19 s23 s24 s25 s54 s59 => 
(k [s0, s1, (.bool false), s5, s7, s8, s9, s14, s16, s17, s18, s19, s23, s24, s25, s54, s59] H : R))
noncomputable def c143 (C : CallF) (l0 : List AV) (H : AH) (k : AV → AH → R) : R := opn 2 l0 (fun x0 x1 => (qFn (fun kr => (r143_0 (r143_1 (qCd (sel 7) (fun _ => (r143_2 kr)) (fun k11 => k11) (r143_3 (r143_4 (qBl (fun k1 => (qLoop (l143_10 C k1 kr))) (r143_17 kr))))))))
(fun fr H => k (sel 2 fr) H) [x0, x1, undef, undef, undef, undef, undef, undef, undef, undef, undef, undef, undef, undef, undef, undef, undef] H : R))
/- unicode/utf8.RuneCountInString -/
noncomputable def r144_4 (k : KT R) : KT R := fun fr H => opn 4 fr (fun s0 s2 s4 s6 => 
(k [s0, s2, s4, s6] H : R))
noncomputable def r144_3 (k : KT R) : KT R := fun fr H => opn 4 fr (fun s0 s2 s4 s6 => 
(qAdd X 3 s2 (.int .i64 1) fun v8 =>
k [s0, v8, s4, s6] H : R))
noncomputable def r144_2 (k : KT R) : KT R := fun fr H => opn 4 fr (fun s0 s2 s4 s6 => 
(qNext s4 H fun v5 H =>
qExt v5 0 fun v6 =>
k [s0, s2, s4, v6] H : R))
noncomputable def l144_4 (k1 : KT R) : KT R → KT R := fun k2 => (r144_2 (qCd (sel 3) (fun k4 => k4) (fun _ => k1) (qBl (fun k3 => (r144_3 k3)) k2)))
noncomputable def r144_1 (k : KT R) : KT R := fun fr H => opn 4 fr (fun s0 s2 s4 s6 => 
(qRange s0 H fun v4 H =>
k [s0, s2, v4, s6] H : R))
noncomputable def r144_0 (k : KT R) : KT R := fun fr H => opn 4 fr (fun s0 s2 s4 s6 => 
(k [s0, (.int .i64 0), s4, s6] H : R))
noncomputable def c144 (C : CallF) (l0 : List AV) (H : AH) (k : AV → AH → R) : R := opn 1 l0 (fun x0 => (qFn (fun kr => (r144_0 (r144_1 (qBl (fun k1 => (qLoop (l144_4 k1))) (r144_4 kr)))))
(fun fr H => k (sel 1 fr) H) [x0, undef, undef, undef] H : R))
/- strings.Index -/
noncomputable def r146_1 (C : CallF) (k : KT R) : KT R := fun fr H => opn 3 fr (fun s0 s1 s4 => 
(qRes (C 157 [s0, s1] H) fun v7 H =>
k [s0, s1, v7] H : R))
noncomputable def r146_0 (k : KT R) : KT R := fun fr H => opn 3 fr (fun s0 s1 s4 => 
(k [s0, s1, (.int .i64 0)] H : R))
noncomputable def c146 (C : CallF) (l0 : List AV) (H : AH) (k : AV → AH → R) : R := opn 2 l0 (fun x0 x1 => (qFn (fun kr => (r146_0 (r146_1 C kr)))
(fun fr H => k (sel 2 fr) H) [x0, x1, undef] H : R))
/- refectory/refectoryref08.number -/
noncomputable def r147_12 (k : KT R) : KT R := fun fr H => opn 9 fr (fun s0 s2 s3 s4 s5 s8 s13 s18 s30 => 
(k [s0, s3, s3, s4, s5, s8, s13, s18, s30] H : R))
noncomputable def r147_11 (k : KT R) : KT R := fun fr H => opn 9 fr (fun s0 s2 s3 s4 s5 s8 s13 s18 s30 => 
(qUn .neg s3 fun v32 =>
k [s0, v32, s3, s4, s5, s8, s13, s18, s30] H : R))
noncomputable def r147_10 (k : KT R) : KT R := fun fr H => opn 9 fr (fun s0 s2 s3 s4 s5 s8 s13 s18 s30 => 
(qEql X 3 s4 (.int .i64 1) fun v30 =>
k [s0, s2, s3, s4, s5, s8, s13, s18, v30] H : R))
noncomputable def r147_5 (k : KT R) : KT R := fun fr H => opn 9 fr (fun s0 s2 s3 s4 s5 s8 s13 s18 s30 => 
(k [s0, s2, (.int .i64 1000000), s4, s5, s8, s13, s18, s30] H : R))
noncomputable def r147_8 (k : KT R) : KT R := fun fr H => opn 9 fr (fun s0 s2 s3 s4 s5 s8 s13 s18 s30 => 
(qAdd X 3 s5 (.int .i64 1) fun v20 =>
k [s0, s2, s3, s4, v20, s8, s13, s18, s30] H : R))
noncomputable def r147_9 (k : KT R) : KT R := fun fr H => opn 9 fr (fun s0 s2 s3 s4 s5 s8 s13 s18 s30 => 
(qMul X 3 (.int .i64 10) s3 fun v22 =>
qIx s0 s5 fun v25 =>
qSub X 5 v25 (.int .u8 48) fun v26 =>
qConvI .i64 v26 fun v27 =>
qAdd X 3 v22 v27 fun v28 =>
k [s0, s2, v28, s4, s5, s8, s13, s18, s30] H : R))
noncomputable def r147_7 (k : KT R) : KT R := fun fr H => opn 9 fr (fun s0 s2 s3 s4 s5 s8 s13 s18 s30 => 
(qLenS s0 fun v17 =>
qLss X 3 s5 v17 fun v18 =>
k [s0, s2, s3, s4, s5, s8, s13, v18, s30] H : R))
noncomputable def l147_6 (k3 : KT R) : KT R → KT R := fun k4 => (r147_7 (qCd (sel 7) (fun k6 => k6) (fun _ => k3) (qBl (fun k5 => (r147_9 k5)) (r147_8 k4))))
noncomputable def r147_6 (k : KT R) : KT R := fun fr H => opn 9 fr (fun s0 s2 s3 s4 s5 s8 s13 s18 s30 => 
(k [s0, s2, s3, s4, s4, s8, s13, s18, s30] H : R))
noncomputable def r147_4 (k : KT R) : KT R := fun fr H => opn 9 fr (fun s0 s2 s3 s4 s5 s8 s13 s18 s30 => 
(qLenS s0 fun v10 =>
qSub X 3 v10 s4 fun v12 =>
qGtr X 3 v12 (.int .i64 6) fun v13 =>
k [s0, s2, s3, s4, s5, s8, v13, s18, s30] H : R))
noncomputable def r147_3 (k : KT R) : KT R := fun fr H => opn 9 fr (fun s0 s2 s3 s4 s5 s8 s13 s18 s30 => 
(k [s0, s2, s3, (.int .i64 1), s5, s8, s13, s18, s30] H : R))
noncomputable def r147_2 (k : KT R) : KT R := fun fr H => opn 9 fr (fun s0 s2 s3 s4 s5 s8 s13 s18 s30 => 
(qIx s0 (.int .i64 0) fun v7 =>
qEql X 5 v7 (.int .u8 45) fun v8 =>
k [s0, s2, s3, s4, s5, v8, s13, s18, s30] H : R))
noncomputable def r147_1 (k : KT R) : KT R := fun fr H => opn 9 fr (fun s0 s2 s3 s4 s5 s8 s13 s18 s30 => 
(k [s0, s2, (.int .i64 0), (.int .i64 0), s5, s8, s13, s18, s30] H : R))
noncomputable def r147_0 (k : KT R) : KT R := fun fr H => opn 9 fr (fun s0 s2 s3 s4 s5 s8 s13 s18 s30 => 
(k [s0, (.int .i64 0), s3, s4, s5, s8, s13, s18, s30] H : R))
noncomputable def c147 (C : CallF) (l0 : List AV) (H : AH) (k : AV → AH → R) : R := opn 1 l0 (fun x0 => (qFn (fun kr => (r147_0 (r147_1 (r147_2 (qCd (sel 5) (fun k7 => (r147_3 k7)) (fun k7 => k7) (r147_4 (qCd (sel 6) (fun k2 => (r147_5 k2)) (fun k2 => (r147_6 (qBl (fun k3 => (qLoop (l147_6 k3))) k2))) (r147_10 (qCd (sel 8) (fun _ => (r147_11 kr)) (fun k1 => k1) (r147_12 kr))))))))))
(fun fr H => k (sel 1 fr) H) [x0, undef, undef, undef, undef, undef, undef, undef, undef] H : R))
/- slices.IndexFunc[[]refectory/api.TypeDef,refectory/api.TypeDef] -/
noncomputable def r148_7 (k : KT R) : KT R := fun fr H => opn 8 fr (fun s0 s1 s4 s5 s7 s8 s9 s16 => 
(k [s0, s1, (.int .i64 (-1)), s5, s7, s8, s9, s16] H : R))
noncomputable def r148_6 (k : KT R) : KT R := fun fr H => opn 8 fr (fun s0 s1 s4 s5 s7 s8 s9 s16 => 
(qAdd X 3 s8 (.int .i64 1) fun v18 =>
k [s0, s1, s4, s5, s7, v18, s9, s16] H : R))
noncomputable def r148_5 (k : KT R) : KT R := fun fr H => opn 8 fr (fun s0 s1 s4 s5 s7 s8 s9 s16 => 
(k [s0, s1, s5, s5, s7, s8, s9, s16] H : R))
noncomputable def r148_4 (C : CallF) (k : KT R) : KT R := fun fr H => opn 8 fr (fun s0 s1 s4 s5 s7 s8 s9 s16 => 
(qIa 5 s0 s5 fun v14 =>
qLdA 5 v14 H fun v15 =>
qCallV C s1 [v15] H fun v16 H =>
k [s0, s1, s4, s5, s7, s8, s9, v16] H : R))
noncomputable def r148_3 (k : KT R) : KT R := fun fr H => opn 8 fr (fun s0 s1 s4 s5 s7 s8 s9 s16 => 
(k [s0, s1, s4, s8, s7, s8, s9, s16] H : R))
noncomputable def r148_2 (k : KT R) : KT R := fun fr H => opn 8 fr (fun s0 s1 s4 s5 s7 s8 s9 s16 => 
(qLss X 3 s8 s7 fun v9 =>
k [s0, s1, s4, s5, s7, s8, v9, s16] H : R))
noncomputable def l148_5 (C : CallF) (k1 : KT R) (kr : KT R) : KT R → KT R := fun k2 => (r148_2 (qCd (sel 6) (fun k5 => k5) (fun _ => k1) (qBl (fun k3 => (r148_3 (r148_4 C (qCd (sel 7) (fun _ => (r148_5 kr)) (fun k4 => k4) k3)))) (r148_6 k2))))
noncomputable def r148_1 (k : KT R) : KT R := fun fr H => opn 8 fr (fun s0 s1 s4 s5 s7 s8 s9 s16 => 
(qLenL s0 fun v7 =>
k [s0, s1, s4, s5, v7, (.int .i64 0), s9, s16] H : R))
noncomputable def r148_0 (k : KT R) : KT R := fun fr H => opn 8 fr (fun s0 s1 s4 s5 s7 s8 s9 s16 => 
(k [s0, s1, (.int .i64 0), s5, s7, s8, s9, s16] H : R))
noncomputable def c148 (C : CallF) (l0 : List AV) (H : AH) (k : AV → AH → R) : R := opn 2 l0 (fun x0 x1 => (qFn (fun kr => (r148_0 (r148_1 (qBl (fun k1 => (qLoop (l148_5 C k1 kr))) (r148_7 kr)))))
(fun fr H => k (sel 2 fr) H) [x0, x1, undef, undef, undef, undef, undef, undef] H : R))
/- refectory/schema.Find$1 -/
noncomputable def r149_1 (k : KT R) : KT R := fun fr H => opn 4 fr (fun s0 s1 s2 s3 => 
(qFa 1 s2 fun v4 =>
qLd v4 H fun v5 =>
qLd s1 H fun v6 =>
qEql X 9 v5 v6 fun v7 =>
k [s0, s1, s2, v7] H : R))
noncomputable def r149_0 (k : KT R) : KT R := fun fr H => opn 4 fr (fun s0 s1 s2 s3 => 
(qBox s0 H fun v2 H =>
k [s0, s1, v2, (.bool false)] H : R))
noncomputable def c149 (C : CallF) (l0 : List AV) (H : AH) (k : AV → AH → R) : R := opn 2 l0 (fun x0 x1 => (qFn (fun kr => (r149_0 (r149_1 kr)))
(fun fr H => k (sel 3 fr) H) [x0, x1, undef, undef] H : R))
/- refectory/schema.own -/
noncomputable def r150_1 (C : CallF) (k : KT R) : KT R := fun fr H => opn 2 fr (fun s0 s2 => 
(qRows z9 5 [(0, (.str [73,110,116])), (1, (.str [70,108,111,97,116])), (2, (.str [83,116,114,105,110,103])), (3, (.str [66,111,111,108,101,97,110])), (4, (.str [73,68]))] fun v3 =>
qRes (C 71 [v3, s0] H) fun v5 H =>
k [s0, v5] H : R))
noncomputable def r150_0 (k : KT R) : KT R := fun fr H => opn 2 fr (fun s0 s2 => 
(k [s0, (.bool false)] H : R))
noncomputable def c150 (C : CallF) (l0 : List AV) (H : AH) (k : AV → AH → R) : R := opn 1 l0 (fun x0 => (qFn (fun kr => (r150_0 (r150_1 C kr)))
(fun fr H => k (sel 1 fr) H) [x0, undef] H : R))
/- refectory/refectoryref01.Valid -/
noncomputable def r152_7 (k : KT R) : KT R := fun fr H => opn 6 fr (fun s0 s2 s3 s5 s9 s17 => 
(k [s0, (.bool true), s3, s5, s9, s17] H : R))
noncomputable def r152_6 (k : KT R) : KT R := fun fr H => opn 6 fr (fun s0 s2 s3 s5 s9 s17 => 
(qAdd X 3 s3 s5 fun v20 =>
k [s0, s2, v20, s5, s9, s17] H : R))
noncomputable def r152_5 (k : KT R) : KT R := fun fr H => opn 6 fr (fun s0 s2 s3 s5 s9 s17 => 
(k [s0, (.bool false), s3, s5, s9, s17] H : R))
noncomputable def r152_4 (k : KT R) : KT R := fun fr H => opn 6 fr (fun s0 s2 s3 s5 s9 s17 => 
(qEql X 3 s5 (.int .i64 0) fun v17 =>
k [s0, s2, s3, s5, s9, v17] H : R))
noncomputable def r152_3 (C : CallF) (k : KT R) : KT R := fun fr H => opn 6 fr (fun s0 s2 s3 s5 s9 s17 => 
(qRes (C 160 [s0, s3] H) fun v13 H =>
qExt v13 0 fun v14 =>
qExt v13 1 fun v15 =>
k [s0, s2, s3, v15, s9, s17] H : R))
noncomputable def r152_2 (k : KT R) : KT R := fun fr H => opn 6 fr (fun s0 s2 s3 s5 s9 s17 => 
(qLenS s0 fun v8 =>
qLss X 3 s3 v8 fun v9 =>
k [s0, s2, s3, s5, v9, s17] H : R))
noncomputable def l152_5 (C : CallF) (k1 : KT R) (kr : KT R) : KT R → KT R := fun k2 => (r152_2 (qCd (sel 4) (fun k5 => k5) (fun _ => k1) (qBl (fun k3 => (r152_3 C (r152_4 (qCd (sel 5) (fun _ => (r152_5 kr)) (fun k4 => k4) (r152_6 k3))))) k2)))
noncomputable def r152_1 (k : KT R) : KT R := fun fr H => opn 6 fr (fun s0 s2 s3 s5 s9 s17 => 
(k [s0, s2, (.int .i64 0), s5, s9, s17] H : R))
noncomputable def r152_0 (k : KT R) : KT R := fun fr H => opn 6 fr (fun s0 s2 s3 s5 s9 s17 => 
(k [s0, (.bool false), s3, s5, s9, s17] H : R))
noncomputable def c152 (C : CallF) (l0 : List AV) (H : AH) (k : AV → AH → R) : R := opn 1 l0 (fun x0 => (qFn (fun kr => (r152_0 (r152_1 (qBl (fun k1 => (qLoop (l152_5 C k1 kr))) (r152_7 kr)))))
(fun fr H => k (sel 1 fr) H) [x0, undef, undef, undef, undef, undef] H : R))
/- refectory/refectoryref01.one -/
noncomputable def r153_27 (k : KT R) : KT R := fun fr H => opn 18 fr (fun s0 s1 s4 s5 s6 s7 s11 s14 s15 s24 s26 s28 s30 s32 s34 s66 s76 s94 => 
(k [s0, s1, (.str []), (.int .i64 0), s6, s7, s11, s14, s15, s24, s26, s28, s30, s32, s34, s66, s76, s94] H : R))
noncomputable def r153_7 (k : KT R) : KT R := fun fr H => opn 18 fr (fun s0 s1 s4 s5 s6 s7 s11 s14 s15 s24 s26 s28 s30 s32 s34 s66 s76 s94 => 
(qAdd X 3 s1 (.int .i64 1) fun v22 =>
qSlc Try.t9.desc 0 s0 (some s1) (some v22) none fun v23 =>
k [s0, s1, v23, (.int .i64 1), s6, s7, s11, s14, s15, s24, s26, s28, s30, s32, s34, s66, s76, s94] H : R))
noncomputable def r153_9 (k : KT R) : KT R := fun fr H => opn 18 fr (fun s0 s1 s4 s5 s6 s7 s11 s14 s15 s24 s26 s28 s30 s32 s34 s66 s76 s94 => 
(k [s0, s1, (.str [8]), (.int .i64 1), s6, s7, s11, s14, s15, s24, s26, s28, s30, s32, s34, s66, s76, s94] H : R))
noncomputable def r153_11 (k : KT R) : KT R := fun fr H => opn 18 fr (fun s0 s1 s4 s5 s6 s7 s11 s14 s15 s24 s26 s28 s30 s32 s34 s66 s76 s94 => 
(k [s0, s1, (.str [12]), (.int .i64 1), s6, s7, s11, s14, s15, s24, s26, s28, s30, s32, s34, s66, s76, s94] H : R))
noncomputable def r153_13 (k : KT R) : KT R := fun fr H => opn 18 fr (fun s0 s1 s4 s5 s6 s7 s11 s14 s15 s24 s26 s28 s30 s32 s34 s66 s76 s94 => 
(k [s0, s1, (.str [10]), (.int .i64 1), s6, s7, s11, s14, s15, s24, s26, s28, s30, s32, s34, s66, s76, s94] H : R))
noncomputable def r153_15 (k : KT R) : KT R := fun fr H => opn 18 fr (fun s0 s1 s4 s5 s6 s7 s11 s14 s15 s24 s26 s28 s30 s32 s34 s66 s76 s94 => 
(k [s0, s1, (.str [13]), (.int .i64 1), s6, s7, s11, s14, s15, s24, s26, s28, s30, s32, s34, s66, s76, s94] H : R))
noncomputable def r153_17 (k : KT R) : KT R := fun fr H => opn 18 fr (fun s0 s1 s4 s5 s6 s7 s11 s14 s15 s24 s26 s28 s30 s32 s34 s66 s76 s94 => 
(k [s0, s1, (.str [9]), (.int .i64 1), s6, s7, s11, s14, s15, s24, s26, s28, s30, s32, s34, s66, s76, s94] H : R))
noncomputable def r153_26 (C : CallF) (k : KT R) : KT R := fun fr H => opn 18 fr (fun s0 s1 s4 s5 s6 s7 s11 s14 s15 s24 s26 s28 s30 s32 s34 s66 s76 s94 => 
(qRes (C 162 [s6] H) fun v96 H =>
k [s0, s1, v96, (.int .i64 5), s6, s7, s11, s14, s15, s24, s26, s28, s30, s32, s34, s66, s76, s94] H : R))
noncomputable def r153_25 (k : KT R) : KT R := fun fr H => opn 18 fr (fun s0 s1 s4 s5 s6 s7 s11 s14 s15 s24 s26 s28 s30 s32 s34 s66 s76 s94 => 
(k [s0, s1, (.str []), (.int .i64 0), s6, s7, s11, s14, s15, s24, s26, s28, s30, s32, s34, s66, s76, s94] H : R))
noncomputable def r153_24 (k : KT R) : KT R := fun fr H => opn 18 fr (fun s0 s1 s4 s5 s6 s7 s11 s14 s15 s24 s26 s28 s30 s32 s34 s66 s76 s94 => 
(qLss X 3 s6 (.int .i64 0) fun v86 =>
qG v86 false (fun k => k s6 H) H fun v88 H =>
qG v86 false (fun k => qGeq X 3 v88 (.int .i64 55296) fun v => k v H) H fun v89 H =>
qG v86 false (fun k => k v89 H) H fun v90 H =>
qG v90 true (fun k => k s6 H) H fun v91 H =>
qG v90 true (fun k => qLeq X 3 v91 (.int .i64 57343) fun v => k v H) H fun v92 H =>
qG v86 false (fun k => qPick v90 v92 (.bool false) fun v => k v H) H fun v93 H =>
qPick v86 (.bool true) v93 fun v94 =>
k [s0, s1, s4, s5, s6, s7, s11, s14, s15, s24, s26, s28, s30, s32, s34, s66, s76, v94] H : R))
noncomputable def r153_23 (C : CallF) (k : KT R) : KT R := fun fr H => opn 18 fr (fun s0 s1 s4 s5 s6 s7 s11 s14 s15 s24 s26 s28 s30 s32 s34 s66 s76 s94 => 
(qSub X 3 s6 (.int .i64 55296) fun v78 =>
qO (binop X .shl 3 v78 (.int .u64 10)) fun v79 =>
qAdd X 3 (.int .i64 65536) v79 fun v80 =>
qAdd X 3 v80 s7 fun v82 =>
qSub X 3 v82 (.int .i64 56320) fun v83 =>
qRes (C 162 [v83] H) fun v84 H =>
k [s0, s1, v84, (.int .i64 11), s6, s7, s11, s14, s15, s24, s26, s28, s30, s32, s34, s66, s76, s94] H : R))
noncomputable def r153_22 (k : KT R) : KT R := fun fr H => opn 18 fr (fun s0 s1 s4 s5 s6 s7 s11 s14 s15 s24 s26 s28 s30 s32 s34 s66 s76 s94 => 
(qGeq X 3 s7 (.int .i64 56320) fun v72 =>
qG v72 true (fun k => k s7 H) H fun v74 H =>
qG v72 true (fun k => qLeq X 3 v74 (.int .i64 57343) fun v => k v H) H fun v75 H =>
qPick v72 v75 (.bool false) fun v76 =>
k [s0, s1, s4, s5, s6, s7, s11, s14, s15, s24, s26, s28, s30, s32, s34, s66, v76, s94] H : R))
noncomputable def r153_21 (C : CallF) (k : KT R) : KT R := fun fr H => opn 18 fr (fun s0 s1 s4 s5 s6 s7 s11 s14 s15 s24 s26 s28 s30 s32 s34 s66 s76 s94 => 
(qAdd X 3 s1 (.int .i64 7) fun v69 =>
qRes (C 161 [s0, v69] H) fun v70 H =>
k [s0, s1, s4, s5, s6, v70, s11, s14, s15, s24, s26, s28, s30, s32, s34, s66, s76, s94] H : R))
noncomputable def r153_20 (k : KT R) : KT R := fun fr H => opn 18 fr (fun s0 s1 s4 s5 s6 s7 s11 s14 s15 s24 s26 s28 s30 s32 s34 s66 s76 s94 => 
(qGeq X 3 s6 (.int .i64 55296) fun v41 =>
qG v41 true (fun k => k s6 H) H fun v43 H =>
qG v41 true (fun k => qLeq X 3 v43 (.int .i64 56319) fun v => k v H) H fun v44 H =>
qPick v41 v44 (.bool false) fun v45 =>
qG v45 true (fun k => k s1 H) H fun v47 H =>
qG v45 true (fun k => qAdd X 3 v47 (.int .i64 6) fun v => k v H) H fun v48 H =>
qG v45 true (fun k => k s0 H) H fun v49 H =>
qG v45 true (fun k => qLenS v49 fun v => k v H) H fun v50 H =>
qG v45 true (fun k => qLss X 3 v48 v50 fun v => k v H) H fun v51 H =>
qPick v45 v51 (.bool false) fun v52 =>
qG v52 true (fun k => k s0 H) H fun v54 H =>
qG v52 true (fun k => k s1 H) H fun v55 H =>
qG v52 true (fun k => qAdd X 3 v55 (.int .i64 5) fun v => k v H) H fun v56 H =>
qG v52 true (fun k => qIx v54 v56 fun v => k v H) H fun v57 H =>
qG v52 true (fun k => qEql X 5 v57 (.int .u8 92) fun v => k v H) H fun v58 H =>
qPick v52 v58 (.bool false) fun v59 =>
qG v59 true (fun k => k s0 H) H fun v61 H =>
qG v59 true (fun k => k s1 H) H fun v62 H =>
qG v59 true (fun k => qAdd X 3 v62 (.int .i64 6) fun v => k v H) H fun v63 H =>
qG v59 true (fun k => qIx v61 v63 fun v => k v H) H fun v64 H =>
qG v59 true (fun k => qEql X 5 v64 (.int .u8 117) fun v => k v H) H fun v65 H =>
qPick v59 v65 (.bool false) fun v66 =>
k [s0, s1, s4, s5, s6, s7, s11, s14, s15, s24, s26, s28, s30, s32, s34, v66, s76, s94] H : R))
noncomputable def r153_19 (C : CallF) (k : KT R) : KT R := fun fr H => opn 18 fr (fun s0 s1 s4 s5 s6 s7 s11 s14 s15 s24 s26 s28 s30 s32 s34 s66 s76 s94 => 
(qAdd X 3 s1 (.int .i64 1) fun v38 =>
qRes (C 161 [s0, v38] H) fun v39 H =>
k [s0, s1, s4, s5, v39, s7, s11, s14, s15, s24, s26, s28, s30, s32, s34, s66, s76, s94] H : R))
noncomputable def r153_18 (k : KT R) : KT R := fun fr H => opn 18 fr (fun s0 s1 s4 s5 s6 s7 s11 s14 s15 s24 s26 s28 s30 s32 s34 s66 s76 s94 => 
(qEql X 5 s14 (.int .u8 117) fun v35 =>
k [s0, s1, s4, s5, s6, s7, s11, s14, s15, s24, s26, s28, s30, s32, v35, s66, s76, s94] H : R))
noncomputable def r153_16 (k : KT R) : KT R := fun fr H => opn 18 fr (fun s0 s1 s4 s5 s6 s7 s11 s14 s15 s24 s26 s28 s30 s32 s34 s66 s76 s94 => 
(qEql X 5 s14 (.int .u8 116) fun v33 =>
k [s0, s1, s4, s5, s6, s7, s11, s14, s15, s24, s26, s28, s30, v33, s34, s66, s76, s94] H : R))
noncomputable def r153_14 (k : KT R) : KT R := fun fr H => opn 18 fr (fun s0 s1 s4 s5 s6 s7 s11 s14 s15 s24 s26 s28 s30 s32 s34 s66 s76 s94 => 
(qEql X 5 s14 (.int .u8 114) fun v31 =>
k [s0, s1, s4, s5, s6, s7, s11, s14, s15, s24, s26, s28, v31, s32, s34, s66, s76, s94] H : R))
noncomputable def r153_12 (k : KT R) : KT R := fun fr H => opn 18 fr (fun s0 s1 s4 s5 s6 s7 s11 s14 s15 s24 s26 s28 s30 s32 s34 s66 s76 s94 => 
(qEql X 5 s14 (.int .u8 110) fun v29 =>
k [s0, s1, s4, s5, s6, s7, s11, s14, s15, s24, s26, v29, s30, s32, s34, s66, s76, s94] H : R))
noncomputable def r153_10 (k : KT R) : KT R := fun fr H => opn 18 fr (fun s0 s1 s4 s5 s6 s7 s11 s14 s15 s24 s26 s28 s30 s32 s34 s66 s76 s94 => 
(qEql X 5 s14 (.int .u8 102) fun v27 =>
k [s0, s1, s4, s5, s6, s7, s11, s14, s15, s24, v27, s28, s30, s32, s34, s66, s76, s94] H : R))
noncomputable def r153_8 (k : KT R) : KT R := fun fr H => opn 18 fr (fun s0 s1 s4 s5 s6 s7 s11 s14 s15 s24 s26 s28 s30 s32 s34 s66 s76 s94 => 
(qEql X 5 s14 (.int .u8 98) fun v25 =>
k [s0, s1, s4, s5, s6, s7, s11, s14, s15, v25, s26, s28, s30, s32, s34, s66, s76, s94] H : R))
noncomputable def r153_6 (k : KT R) : KT R := fun fr H => opn 18 fr (fun s0 s1 s4 s5 s6 s7 s11 s14 s15 s24 s26 s28 s30 s32 s34 s66 s76 s94 => 
(qEql X 5 s14 (.int .u8 47) fun v18 =>
k [s0, s1, s4, s5, s6, s7, s11, s14, v18, s24, s26, s28, s30, s32, s34, s66, s76, s94] H : R))
noncomputable def r153_5 (k : KT R) : KT R := fun fr H => opn 18 fr (fun s0 s1 s4 s5 s6 s7 s11 s14 s15 s24 s26 s28 s30 s32 s34 s66 s76 s94 => 
(qEql X 5 s14 (.int .u8 92) fun v17 =>
k [s0, s1, s4, s5, s6, s7, s11, s14, v17, s24, s26, s28, s30, s32, s34, s66, s76, s94] H : R))
noncomputable def r153_4 (k : KT R) : KT R := fun fr H => opn 18 fr (fun s0 s1 s4 s5 s6 s7 s11 s14 s15 s24 s26 s28 s30 s32 s34 s66 s76 s94 => 
(qEql X 5 s14 (.int .u8 34) fun v16 =>
k [s0, s1, s4, s5, s6, s7, s11, s14, v16, s24, s26, s28, s30, s32, s34, s66, s76, s94] H : R))
noncomputable def r153_3 (k : KT R) : KT R := fun fr H => opn 18 fr (fun s0 s1 s4 s5 s6 s7 s11 s14 s15 s24 s26 s28 s30 s32 s34 s66 s76 s94 => 
(qIx s0 s1 fun v14 =>
k [s0, s1, s4, s5, s6, s7, s11, v14, s15, s24, s26, s28, s30, s32, s34, s66, s76, s94] H : R))
noncomputable def r153_2 (k : KT R) : KT R := fun fr H => opn 18 fr (fun s0 s1 s4 s5 s6 s7 s11 s14 s15 s24 s26 s28 s30 s32 s34 s66 s76 s94 => 
(k [s0, s1, (.str []), (.int .i64 0), s6, s7, s11, s14, s15, s24, s26, s28, s30, s32, s34, s66, s76, s94] H : R))
noncomputable def r153_1 (k : KT R) : KT R := fun fr H => opn 18 fr (fun s0 s1 s4 s5 s6 s7 s11 s14 s15 s24 s26 s28 s30 s32 s34 s66 s76 s94 => 
(qLenS s0 fun v10 =>
qGeq X 3 s1 v10 fun v11 =>
k [s0, s1, s4, s5, s6, s7, v11, s14, s15, s24, s26, s28, s30, s32, s34, s66, s76, s94] H : R))
noncomputable def r153_0 (k : KT R) : KT R := fun fr H => opn 18 fr (fun s0 s1 s4 s5 s6 s7 s11 s14 s15 s24 s26 s28 s30 s32 s34 s66 s76 s94 => 
(k [s0, s1, (.str []), (.int .i64 0), s6, s7, s11, s14, s15, s24, s26, s28, s30, s32, s34, s66, s76, s94] H : R))
noncomputable def c153 (C : CallF) (l0 : List AV) (H : AH) (k : AV → AH → R) : R := opn 2 l0 (fun x0 x1 => (qFn (fun kr => (r153_0 (r153_1 (qCd (sel 6) (fun _ => (r153_2 kr)) (fun k14 => k14) (r153_3 (qBl (fun k1 => (r153_4 (qCd (sel 8) (fun k12 => k12) (fun k12 => (r153_5 (qCd (sel 8) (fun k13 => k13) (fun k13 => (r153_6 k13)) k12))) (qCd (sel 8) (fun _ => (r153_7 kr)) (fun k2 => (r153_8 (qCd (sel 9) (fun _ => (r153_9 kr)) (fun k3 => (r153_10 (qCd (sel 10) (fun _ => (r153_11 kr)) (fun k4 => (r153_12 (qCd (sel 11) (fun _ => (r153_13 kr)) (fun k5 => (r153_14 (qCd (sel 12) (fun _ => (r153_15 kr)) (fun k6 => (r153_16 (qCd (sel 13) (fun _ => (r153_17 kr)) (fun k7 => (r153_18 (qCd (sel 14) (fun _ => (r153_19 C (r153_20 (qCd (sel 15) (fun k10 => (r153_21 C (r153_22 (qCd (sel 16) (fun _ => (r153_23 C kr)) (fun k11 => k11) k10)))) (fun k10 => k10) (r153_24 (qCd (sel 17) (fun _ => (r153_25 kr)) (fun k9 => k9) (r153_26 C kr))))))) (fun k8 => k8) k7))) k6))) k5))) k4))) k3))) k2))) k1)))) (r153_27 kr)))))))
(fun fr H => k (.tup [(sel 2 fr), (sel 3 fr)]) H) [x0, x1, undef, undef, undef, undef, undef, undef, undef, undef, undef, undef, undef, undef, undef, undef, undef, undef] H : R))
/- (*refectory/refectoryref05.P).typ -/
noncomputable def r154_11 (k : KT R) : KT R := fun fr H => opn 9 fr (fun s0 s1 s4 s5 s6 s7 s10 s17 s44 => 
(qLdA 2 s6 H fun v49 =>
qSt 2 s4 v49 H fun _ H =>
k [s0, s1, s4, s7, s6, s7, s10, s17, s44] H : R))
noncomputable def r154_10 (k : KT R) : KT R := fun fr H => opn 9 fr (fun s0 s1 s4 s5 s6 s7 s10 s17 s44 => 
(qFa 1 s6 fun v45 =>
qLd v45 H fun v46 =>
qAdd X 9 v46 (.str [33]) fun v47 =>
qFa 1 s6 fun v48 =>
qSt 1 v48 v47 H fun _ H =>
k [s0, s1, s4, s5, s6, s7, s10, s17, s44] H : R))
noncomputable def r154_9 (C : CallF) (k : KT R) : KT R := fun fr H => opn 9 fr (fun s0 s1 s4 s5 s6 s7 s10 s17 s44 => 
(qG s7 true (fun k => k s0 H) H fun v42 H =>
qG s7 true (fun k => qRes (C 48 [v42, (.int .i64 5), (.str [33])] H) k) H fun v43 H =>
qPick s7 v43 (.bool false) fun v44 =>
k [s0, s1, s4, s5, s6, s7, s10, s17, v44] H : R))
noncomputable def r154_4 (C : CallF) (k : KT R) : KT R := fun fr H => opn 9 fr (fun s0 s1 s4 s5 s6 s7 s10 s17 s44 => 
(qRes (C 57 [s0] H) fun v15 H =>
qFa 0 s6 fun v16 =>
qSt 1 v16 v15 H fun _ H =>
k [s0, s1, s4, s5, s6, s7, s10, s17, s44] H : R))
noncomputable def r154_8 (C : CallF) (k : KT R) : KT R := fun fr H => opn 9 fr (fun s0 s1 s4 s5 s6 s7 s10 s17 s44 => 
(qG s7 true (fun k => k s0 H) H fun v37 H =>
qG s7 true (fun k => qRes (C 48 [v37, (.int .i64 5), (.str [93])] H) k) H fun v38 H =>
qPick s7 v38 (.bool false) fun v39 =>
k [s0, s1, s4, s5, s6, v39, s10, s17, s44] H : R))
noncomputable def r154_7 (k : KT R) : KT R := fun fr H => opn 9 fr (fun s0 s1 s4 s5 s6 s7 s10 s17 s44 => 
(qFa 1 s6 fun v31 =>
qLd v31 H fun v32 =>
qAdd X 9 v32 (.str [93]) fun v33 =>
qFa 1 s6 fun v34 =>
qSt 1 v34 v33 H fun _ H =>
k [s0, s1, s4, s5, s6, s7, s10, s17, s44] H : R))
noncomputable def r154_6 (C : CallF) (k : KT R) : KT R := fun fr H => opn 9 fr (fun s0 s1 s4 s5 s6 s7 s10 s17 s44 => 
(qAdd X 3 s1 (.int .i64 1) fun v27 =>
qRes (C 154 [s0, v27] H) fun v28 H =>
qExt v28 0 fun v29 =>
qExt v28 1 fun v30 =>
qSt 2 s6 v29 H fun _ H =>
k [s0, s1, s4, s5, s6, v30, s10, s17, s44] H : R))
noncomputable def r154_2 (k : KT R) : KT R := fun fr H => opn 9 fr (fun s0 s1 s4 s5 s6 s7 s10 s17 s44 => 
(qBld z115 [] fun v9 =>
qSt 2 s4 v9 H fun _ H =>
k [s0, s1, s4, (.bool false), s6, s7, s10, s17, s44] H : R))
noncomputable def r154_5 (C : CallF) (k : KT R) : KT R := fun fr H => opn 9 fr (fun s0 s1 s4 s5 s6 s7 s10 s17 s44 => 
(qLss X 3 s1 (.int .i64 12) fun v19 =>
qG v19 true (fun k => k s0 H) H fun v21 H =>
qG v19 true (fun k => qRes (C 48 [v21, (.int .i64 5), (.str [91])] H) k) H fun v22 H =>
qPick v19 v22 (.bool false) fun v23 =>
k [s0, s1, s4, s5, s6, s7, s10, v23, s44] H : R))
noncomputable def r154_3 (C : CallF) (k : KT R) : KT R := fun fr H => opn 9 fr (fun s0 s1 s4 s5 s6 s7 s10 s17 s44 => 
(qRes (C 58 [s0] H) fun v12 H =>
qEql X 3 v12 (.int .i64 1) fun v13 =>
k [s0, s1, s4, s5, s6, s7, v13, s17, s44] H : R))
noncomputable def r154_1 (k : KT R) : KT R := fun fr H => opn 9 fr (fun s0 s1 s4 s5 s6 s7 s10 s17 s44 => 
(qBld z115 [] fun v8 =>
qNew (.cells z115) .ptr H fun v6 H =>
qSt 2 v6 v8 H fun _ H =>
k [s0, s1, s4, s5, v6, (.bool true), s10, s17, s44] H : R))
noncomputable def r154_0 (k : KT R) : KT R := fun fr H => opn 9 fr (fun s0 s1 s4 s5 s6 s7 s10 s17 s44 => 
(qNew (.cells z115) .ptr H fun v4 H =>
k [s0, s1, v4, (.bool false), s6, s7, s10, s17, s44] H : R))
noncomputable def c154 (C : CallF) (l0 : List AV) (H : AH) (k : AV → AH → R) : R := opn 2 l0 (fun x0 x1 => (qFn (fun kr => (r154_0 (r154_1 (qBl (fun k2 => (r154_3 C (qCd (sel 6) (fun k3 => (r154_4 C k3)) (fun k3 => (r154_5 C (qCd (sel 7) (fun k4 => (r154_6 C (r154_7 (r154_8 C k4)))) (fun _ => (r154_2 kr)) k3))) k2))) (r154_9 C (qCd (sel 8) (fun k1 => (r154_10 k1)) (fun k1 => k1) (r154_11 kr)))))))
(fun fr H => qPtr (sel 2 fr) (qLdA 2 (sel 2 fr) H fun w0 => k (.tup [w0, (sel 3 fr)]) H)) [x0, x1, undef, undef, undef, undef, undef, undef, undef] H : R))
/- slices.IndexFunc[[]string,string] -/
noncomputable def r155_7 (k : KT R) : KT R := fun fr H => opn 8 fr (fun s0 s1 s4 s5 s7 s8 s9 s16 => 
(k [s0, s1, (.int .i64 (-1)), s5, s7, s8, s9, s16] H : R))
noncomputable def r155_6 (k : KT R) : KT R := fun fr H => opn 8 fr (fun s0 s1 s4 s5 s7 s8 s9 s16 => 
(qAdd X 3 s8 (.int .i64 1) fun v18 =>
k [s0, s1, s4, s5, s7, v18, s9, s16] H : R))
noncomputable def r155_5 (k : KT R) : KT R := fun fr H => opn 8 fr (fun s0 s1 s4 s5 s7 s8 s9 s16 => 
(k [s0, s1, s5, s5, s7, s8, s9, s16] H : R))
noncomputable def r155_4 (C : CallF) (k : KT R) : KT R := fun fr H => opn 8 fr (fun s0 s1 s4 s5 s7 s8 s9 s16 => 
(qIa 1 s0 s5 fun v14 =>
qLd v14 H fun v15 =>
qCallV C s1 [v15] H fun v16 H =>
k [s0, s1, s4, s5, s7, s8, s9, v16] H : R))
noncomputable def r155_3 (k : KT R) : KT R := fun fr H => opn 8 fr (fun s0 s1 s4 s5 s7 s8 s9 s16 => 
(k [s0, s1, s4, s8, s7, s8, s9, s16] H : R))
noncomputable def r155_2 (k : KT R) : KT R := fun fr H => opn 8 fr (fun s0 s1 s4 s5 s7 s8 s9 s16 => 
(qLss X 3 s8 s7 fun v9 =>
k [s0, s1, s4, s5, s7, s8, v9, s16] H : R))
noncomputable def l155_5 (C : CallF) (k1 : KT R) (kr : KT R) : KT R → KT R := fun k2 => (r155_2 (qCd (sel 6) (fun k5 => k5) (fun _ => k1) (qBl (fun k3 => (r155_3 (r155_4 C (qCd (sel 7) (fun _ => (r155_5 kr)) (fun k4 => k4) k3)))) (r155_6 k2))))
noncomputable def r155_1 (k : KT R) : KT R := fun fr H => opn 8 fr (fun s0 s1 s4 s5 s7 s8 s9 s16 => 
(qLenL s0 fun v7 =>
k [s0, s1, s4, s5, v7, (.int .i64 0), s9, s16] H : R))
noncomputable def r155_0 (k : KT R) : KT R := fun fr H => opn 8 fr (fun s0 s1 s4 s5 s7 s8 s9 s16 => 
(k [s0, s1, (.int .i64 0), s5, s7, s8, s9, s16] H : R))
noncomputable def c155 (C : CallF) (l0 : List AV) (H : AH) (k : AV → AH → R) : R := opn 2 l0 (fun x0 x1 => (qFn (fun kr => (r155_0 (r155_1 (qBl (fun k1 => (qLoop (l155_5 C k1 kr))) (r155_7 kr)))))
(fun fr H => k (sel 2 fr) H) [x0, x1, undef, undef, undef, undef, undef, undef] H : R))
/- refectory/value.Same -/
noncomputable def r156_11 (k : KT R) : KT R := fun fr H => opn 14 fr (fun s0 s1 s2 s3 s4 s5 s6 s36 s39 s44 s45 s46 s47 s58 => 
(k [s0, s1, s2, s3, (.bool true), s5, s6, s36, s39, s44, s45, s46, s47, s58] H : R))
noncomputable def r156_10 (k : KT R) : KT R := fun fr H => opn 14 fr (fun s0 s1 s2 s3 s4 s5 s6 s36 s39 s44 s45 s46 s47 s58 => 
(qAdd X 3 s46 (.int .i64 1) fun v59 =>
k [s0, s1, s2, s3, s4, s5, s6, s36, s39, s44, s45, v59, s47, s58] H : R))
noncomputable def r156_9 (k : KT R) : KT R := fun fr H => opn 14 fr (fun s0 s1 s2 s3 s4 s5 s6 s36 s39 s44 s45 s46 s47 s58 => 
(k [s0, s1, s2, s3, (.bool false), s5, s6, s36, s39, s44, s45, s46, s47, s58] H : R))
noncomputable def r156_8 (C : CallF) (k : KT R) : KT R := fun fr H => opn 14 fr (fun s0 s1 s2 s3 s4 s5 s6 s36 s39 s44 s45 s46 s47 s58 => 
(qLdA 4 s6 H fun v51 =>
qFa 3 s3 fun v52 =>
qLd v52 H fun v53 =>
qIa 4 v53 s5 fun v55 =>
qLdA 4 v55 H fun v56 =>
qRes (C 156 [v51, v56] H) fun v57 H =>
qNot v57 fun v58 =>
k [s0, s1, s2, s3, s4, s5, s6, s36, s39, s44, s45, s46, s47, v58] H : R))
noncomputable def r156_7 (k : KT R) : KT R := fun fr H => opn 14 fr (fun s0 s1 s2 s3 s4 s5 s6 s36 s39 s44 s45 s46 s47 s58 => 
(qIa 4 s44 s46 fun v49 =>
qLdA 4 v49 H fun v50 =>
qNew (.cells z30) .ptr H fun v6 H =>
qSt 4 v6 v50 H fun _ H =>
k [s0, s1, s2, s3, s4, s46, v6, s36, s39, s44, s45, s46, s47, s58] H : R))
noncomputable def r156_6 (k : KT R) : KT R := fun fr H => opn 14 fr (fun s0 s1 s2 s3 s4 s5 s6 s36 s39 s44 s45 s46 s47 s58 => 
(qLss X 3 s46 s45 fun v47 =>
k [s0, s1, s2, s3, s4, s5, s6, s36, s39, s44, s45, s46, v47, s58] H : R))
noncomputable def l156_5 (C : CallF) (k1 : KT R) (kr : KT R) : KT R → KT R := fun k2 => (r156_6 (qCd (sel 12) (fun k5 => k5) (fun _ => k1) (qBl (fun k3 => (r156_7 (r156_8 C (qCd (sel 13) (fun _ => (r156_9 kr)) (fun k4 => k4) k3)))) (r156_10 k2))))
noncomputable def r156_5 (k : KT R) : KT R := fun fr H => opn 14 fr (fun s0 s1 s2 s3 s4 s5 s6 s36 s39 s44 s45 s46 s47 s58 => 
(qFa 3 s2 fun v43 =>
qLd v43 H fun v44 =>
qLenL v44 fun v45 =>
k [s0, s1, s2, s3, s4, s5, s6, s36, s39, v44, v45, (.int .i64 0), s47, s58] H : R))
noncomputable def r156_4 (C : CallF) (k : KT R) : KT R := fun fr H => opn 14 fr (fun s0 s1 s2 s3 s4 s5 s6 s36 s39 s44 s45 s46 s47 s58 => 
(qLdA 4 s2 H fun v40 =>
qLdA 4 s3 H fun v41 =>
qRes (C 163 [v40, v41] H) fun v42 H =>
k [s0, s1, s2, s3, v42, s5, s6, s36, s39, s44, s45, s46, s47, s58] H : R))
noncomputable def r156_3 (k : KT R) : KT R := fun fr H => opn 14 fr (fun s0 s1 s2 s3 s4 s5 s6 s36 s39 s44 s45 s46 s47 s58 => 
(qFa 0 s2 fun v37 =>
qLd v37 H fun v38 =>
qEql X 3 v38 (.int .i64 8) fun v39 =>
k [s0, s1, s2, s3, s4, s5, s6, s36, v39, s44, s45, s46, s47, s58] H : R))
noncomputable def r156_2 (k : KT R) : KT R := fun fr H => opn 14 fr (fun s0 s1 s2 s3 s4 s5 s6 s36 s39 s44 s45 s46 s47 s58 => 
(k [s0, s1, s2, s3, (.bool false), s5, s6, s36, s39, s44, s45, s46, s47, s58] H : R))
noncomputable def r156_1 (k : KT R) : KT R := fun fr H => opn 14 fr (fun s0 s1 s2 s3 s4 s5 s6 s36 s39 s44 s45 s46 s47 s58 => 
(qFa 0 s2 fun v7 =>
qLd v7 H fun v8 =>
qFa 0 s3 fun v9 =>
qLd v9 H fun v10 =>
qNeq X 3 v8 v10 fun v11 =>
qG v11 false (fun k => qFa 1 s2 fun v => k v H) H fun v13 H =>
qG v11 false (fun k => qLd v13 H fun v => k v H) H fun v14 H =>
qG v11 false (fun k => qFa 1 s3 fun v => k v H) H fun v15 H =>
qG v11 false (fun k => qLd v15 H fun v => k v H) H fun v16 H =>
qG v11 false (fun k => qNeq X 9 v14 v16 fun v => k v H) H fun v17 H =>
qPick v11 (.bool true) v17 fun v18 =>
qG v18 false (fun k => qFa 3 s2 fun v => k v H) H fun v20 H =>
qG v18 false (fun k => qLd v20 H fun v => k v H) H fun v21 H =>
qG v18 false (fun k => qLenL v21 fun v => k v H) H fun v22 H =>
qG v18 false (fun k => qFa 3 s3 fun v => k v H) H fun v23 H =>
qG v18 false (fun k => qLd v23 H fun v => k v H) H fun v24 H =>
qG v18 false (fun k => qLenL v24 fun v => k v H) H fun v25 H =>
qG v18 false (fun k => qNeq X 3 v22 v25 fun v => k v H) H fun v26 H =>
qPick v18 (.bool true) v26 fun v27 =>
qG v27 false (fun k => qFa 2 s2 fun v => k v H) H fun v29 H =>
qG v27 false (fun k => qLd v29 H fun v => k v H) H fun v30 H =>
qG v27 false (fun k => qLenL v30 fun v => k v H) H fun v31 H =>
qG v27 false (fun k => qFa 2 s3 fun v => k v H) H fun v32 H =>
qG v27 false (fun k => qLd v32 H fun v => k v H) H fun v33 H =>
qG v27 false (fun k => qLenL v33 fun v => k v H) H fun v34 H =>
qG v27 false (fun k => qNeq X 3 v31 v34 fun v => k v H) H fun v35 H =>
qPick v27 (.bool true) v35 fun v36 =>
k [s0, s1, s2, s3, s4, s5, s6, v36, s39, s44, s45, s46, s47, s58] H : R))
noncomputable def r156_0 (k : KT R) : KT R := fun fr H => opn 14 fr (fun s0 s1 s2 s3 s4 s5 s6 s36 s39 s44 s45 s46 s47 s58 => 
(qBox s0 H fun v2 H =>
qBox s1 H fun v3 H =>
k [s0, s1, v2, v3, (.bool false), s5, s6, s36, s39, s44, s45, s46, s47, s58] H : R))
noncomputable def c156 (C : CallF) (l0 : List AV) (H : AH) (k : AV → AH → R) : R := opn 2 l0 (fun x0 x1 => (qFn (fun kr => (r156_0 (r156_1 (qCd (sel 7) (fun _ => (r156_2 kr)) (fun k7 => k7) (r156_3 (qCd (sel 8) (fun _ => (r156_4 C kr)) (fun k6 => k6) (r156_5 (qBl (fun k1 => (qLoop (l156_5 C k1 kr))) (r156_11 kr)))))))))
(fun fr H => k (sel 4 fr) H) [x0, x1, undef, undef, undef, undef, undef, undef, undef, undef, undef, undef, undef, undef] H : R))
/- refectory/refectoryref01.lines -/
noncomputable def r158_11 (k : KT R) : KT R := fun fr H => opn 8 fr (fun s0 s2 s3 s4 s5 s9 s21 s46 => 
(qSlc Try.t9.desc 0 s0 (some s4) none none fun v54 =>
qRows z9 1 [(0, v54)] fun v55 =>
qApp 1 16 s3 v55 false H fun v56 H =>
k [s0, v56, s3, s4, s5, s9, s21, s46] H : R))
noncomputable def r158_5 (k : KT R) : KT R := fun fr H => opn 8 fr (fun s0 s2 s3 s4 s5 s9 s21 s46 => 
(qAdd X 3 s5 (.int .i64 1) fun v11 =>
k [s0, s2, s3, s4, v11, s9, s21, s46] H : R))
noncomputable def r158_10 (k : KT R) : KT R := fun fr H => opn 8 fr (fun s0 s2 s3 s4 s5 s9 s21 s46 => 
(qAdd X 3 s5 (.int .i64 1) fun v50 =>
k [s0, s2, s3, v50, s5, s9, s21, s46] H : R))
noncomputable def r158_9 (k : KT R) : KT R := fun fr H => opn 8 fr (fun s0 s2 s3 s4 s5 s9 s21 s46 => 
(qAdd X 3 s5 (.int .i64 1) fun v48 =>
k [s0, s2, s3, s4, v48, s9, s21, s46] H : R))
noncomputable def r158_8 (k : KT R) : KT R := fun fr H => opn 8 fr (fun s0 s2 s3 s4 s5 s9 s21 s46 => 
(qIx s0 s5 fun v31 =>
qEql X 5 v31 (.int .u8 13) fun v32 =>
qG v32 true (fun k => k s5 H) H fun v34 H =>
qG v32 true (fun k => qAdd X 3 v34 (.int .i64 1) fun v => k v H) H fun v35 H =>
qG v32 true (fun k => k s0 H) H fun v36 H =>
qG v32 true (fun k => qLenS v36 fun v => k v H) H fun v37 H =>
qG v32 true (fun k => qLss X 3 v35 v37 fun v => k v H) H fun v38 H =>
qPick v32 v38 (.bool false) fun v39 =>
qG v39 true (fun k => k s0 H) H fun v41 H =>
qG v39 true (fun k => k s5 H) H fun v42 H =>
qG v39 true (fun k => qAdd X 3 v42 (.int .i64 1) fun v => k v H) H fun v43 H =>
qG v39 true (fun k => qIx v41 v43 fun v => k v H) H fun v44 H =>
qG v39 true (fun k => qEql X 5 v44 (.int .u8 10) fun v => k v H) H fun v45 H =>
qPick v39 v45 (.bool false) fun v46 =>
k [s0, s2, s3, s4, s5, s9, s21, v46] H : R))
noncomputable def r158_7 (k : KT R) : KT R := fun fr H => opn 8 fr (fun s0 s2 s3 s4 s5 s9 s21 s46 => 
(qSlc Try.t9.desc 0 s0 (some s4) (some s5) none fun v26 =>
qRows z9 1 [(0, v26)] fun v27 =>
qApp 1 16 s3 v27 false H fun v28 H =>
k [s0, s2, v28, s4, s5, s9, s21, s46] H : R))
noncomputable def r158_6 (k : KT R) : KT R := fun fr H => opn 8 fr (fun s0 s2 s3 s4 s5 s9 s21 s46 => 
(qIx s0 s5 fun v14 =>
qNeq X 5 v14 (.int .u8 10) fun v15 =>
qG v15 true (fun k => k s0 H) H fun v17 H =>
qG v15 true (fun k => k s5 H) H fun v18 H =>
qG v15 true (fun k => qIx v17 v18 fun v => k v H) H fun v19 H =>
qG v15 true (fun k => qNeq X 5 v19 (.int .u8 13) fun v => k v H) H fun v20 H =>
qPick v15 v20 (.bool false) fun v21 =>
k [s0, s2, s3, s4, s5, s9, v21, s46] H : R))
noncomputable def r158_4 (k : KT R) : KT R := fun fr H => opn 8 fr (fun s0 s2 s3 s4 s5 s9 s21 s46 => 
(qLenS s0 fun v8 =>
qLss X 3 s5 v8 fun v9 =>
k [s0, s2, s3, s4, s5, v9, s21, s46] H : R))
noncomputable def l158_6 (k1 : KT R) : KT R → KT R := fun k2 => (r158_4 (qCd (sel 5) (fun k6 => k6) (fun _ => k1) (qBl (fun k3 => (r158_6 (qCd (sel 6) (fun _ => k3) (fun k5 => k5) (r158_7 (r158_8 (qCd (sel 7) (fun k4 => (r158_9 k4)) (fun k4 => k4) (r158_10 k3))))))) (r158_5 k2))))
noncomputable def r158_3 (k : KT R) : KT R := fun fr H => opn 8 fr (fun s0 s2 s3 s4 s5 s9 s21 s46 => 
(k [s0, s2, s3, s4, (.int .i64 0), s9, s21, s46] H : R))
noncomputable def r158_2 (k : KT R) : KT R := fun fr H => opn 8 fr (fun s0 s2 s3 s4 s5 s9 s21 s46 => 
(k [s0, s2, s3, (.int .i64 0), s5, s9, s21, s46] H : R))
noncomputable def r158_1 (k : KT R) : KT R := fun fr H => opn 8 fr (fun s0 s2 s3 s4 s5 s9 s21 s46 => 
(k [s0, s2, (.sl [] .nil), s4, s5, s9, s21, s46] H : R))
noncomputable def r158_0 (k : KT R) : KT R := fun fr H => opn 8 fr (fun s0 s2 s3 s4 s5 s9 s21 s46 => 
(k [s0, (.sl [] .nil), s3, s4, s5, s9, s21, s46] H : R))
noncomputable def c158 (C : CallF) (l0 : List AV) (H : AH) (k : AV → AH → R) : R := opn 1 l0 (fun x0 => (qFn (fun kr => (r158_0 (r158_1 (r158_2 (r158_3 (qBl (fun k1 => (qLoop (l158_6 k1))) (r158_11 kr)))))))
(fun fr H => k (sel 1 fr) H) [x0, undef, undef, undef, undef, undef, undef, undef] H : R))
/- refectory/refectoryref01.blank -/
noncomputable def r159_4 (k : KT R) : KT R := fun fr H => opn 4 fr (fun s0 s2 s3 s19 => 
(k [s0, s3, s3, s19] H : R))
noncomputable def r159_3 (k : KT R) : KT R := fun fr H => opn 4 fr (fun s0 s2 s3 s19 => 
(qAdd X 3 s3 (.int .i64 1) fun v21 =>
k [s0, s2, v21, s19] H : R))
noncomputable def r159_2 (k : KT R) : KT R := fun fr H => opn 4 fr (fun s0 s2 s3 s19 => 
(qLenS s0 fun v6 =>
qLss X 3 s3 v6 fun v7 =>
qG v7 true (fun k => k s0 H) H fun v9 H =>
qG v7 true (fun k => k s3 H) H fun v10 H =>
qG v7 true (fun k => qIx v9 v10 fun v => k v H) H fun v11 H =>
qG v7 true (fun k => qEql X 5 v11 (.int .u8 32) fun v => k v H) H fun v12 H =>
qG v7 true (fun k => k v12 H) H fun v13 H =>
qG v13 false (fun k => k s0 H) H fun v14 H =>
qG v13 false (fun k => k s3 H) H fun v15 H =>
qG v13 false (fun k => qIx v14 v15 fun v => k v H) H fun v16 H =>
qG v13 false (fun k => qEql X 5 v16 (.int .u8 9) fun v => k v H) H fun v17 H =>
qG v7 true (fun k => qPick v13 (.bool true) v17 fun v => k v H) H fun v18 H =>
qPick v7 v18 (.bool false) fun v19 =>
k [s0, s2, s3, v19] H : R))
noncomputable def l159_4 (k1 : KT R) : KT R → KT R := fun k2 => (r159_2 (qCd (sel 3) (fun k4 => k4) (fun _ => k1) (qBl (fun k3 => (r159_3 k3)) k2)))
noncomputable def r159_1 (k : KT R) : KT R := fun fr H => opn 4 fr (fun s0 s2 s3 s19 => 
(k [s0, s2, (.int .i64 0), s19] H : R))
noncomputable def r159_0 (k : KT R) : KT R := fun fr H => opn 4 fr (fun s0 s2 s3 s19 => 
(k [s0, (.int .i64 0), s3, s19] H : R))
noncomputable def c159 (C : CallF) (l0 : List AV) (H : AH) (k : AV → AH → R) : R := opn 1 l0 (fun x0 => (qFn (fun kr => (r159_0 (r159_1 (qBl (fun k1 => (qLoop (l159_4 k1))) (r159_4 kr)))))
(fun fr H => k (sel 1 fr) H) [x0, undef, undef, undef] H : R))
/- refectory/refectoryref01.rune1 -/
noncomputable def r160_22 (k : KT R) : KT R := fun fr H => opn 16 fr (fun s0 s1 s4 s5 s6 s7 s8 s9 s14 s18 s27 s36 s50 s53 s62 s98 => 
(k [s0, s1, s8, s7, s6, s7, s8, s9, s14, s18, s27, s36, s50, s53, s62, s98] H : R))
noncomputable def r160_21 (k : KT R) : KT R := fun fr H => opn 16 fr (fun s0 s1 s4 s5 s6 s7 s8 s9 s14 s18 s27 s36 s50 s53 s62 s98 => 
(k [s0, s1, (.int .i64 0), (.int .i64 0), s6, s7, s8, s9, s14, s18, s27, s36, s50, s53, s62, s98] H : R))
noncomputable def r160_20 (k : KT R) : KT R := fun fr H => opn 16 fr (fun s0 s1 s4 s5 s6 s7 s8 s9 s14 s18 s27 s36 s50 s53 s62 s98 => 
(qEql X 3 s7 (.int .i64 3) fun v74 =>
qG v74 true (fun k => k s8 H) H fun v76 H =>
qG v74 true (fun k => qLss X 3 v76 (.int .i64 2048) fun v => k v H) H fun v77 H =>
qPick v74 v77 (.bool false) fun v78 =>
qG v78 false (fun k => k s7 H) H fun v80 H =>
qG v78 false (fun k => qEql X 3 v80 (.int .i64 4) fun v => k v H) H fun v81 H =>
qG v78 false (fun k => k v81 H) H fun v82 H =>
qG v82 true (fun k => k s8 H) H fun v83 H =>
qG v82 true (fun k => qLss X 3 v83 (.int .i64 65536) fun v => k v H) H fun v84 H =>
qG v82 true (fun k => k v84 H) H fun v85 H =>
qG v85 false (fun k => k s8 H) H fun v86 H =>
qG v85 false (fun k => qGtr X 3 v86 (.int .i64 1114111) fun v => k v H) H fun v87 H =>
qG v82 true (fun k => qPick v85 (.bool true) v87 fun v => k v H) H fun v88 H =>
qG v78 false (fun k => qPick v82 v88 (.bool false) fun v => k v H) H fun v89 H =>
qPick v78 (.bool true) v89 fun v90 =>
qG v90 false (fun k => k s8 H) H fun v92 H =>
qG v90 false (fun k => qGeq X 3 v92 (.int .i64 55296) fun v => k v H) H fun v93 H =>
qG v90 false (fun k => k v93 H) H fun v94 H =>
qG v94 true (fun k => k s8 H) H fun v95 H =>
qG v94 true (fun k => qLeq X 3 v95 (.int .i64 57343) fun v => k v H) H fun v96 H =>
qG v90 false (fun k => qPick v94 v96 (.bool false) fun v => k v H) H fun v97 H =>
qPick v90 (.bool true) v97 fun v98 =>
k [s0, s1, s4, s5, s6, s7, s8, s9, s14, s18, s27, s36, s50, s53, s62, v98] H : R))
noncomputable def r160_16 (k : KT R) : KT R := fun fr H => opn 16 fr (fun s0 s1 s4 s5 s6 s7 s8 s9 s14 s18 s27 s36 s50 s53 s62 s98 => 
(qAdd X 3 s9 (.int .i64 1) fun v55 =>
k [s0, s1, s4, s5, s6, s7, s8, v55, s14, s18, s27, s36, s50, s53, s62, s98] H : R))
noncomputable def r160_19 (k : KT R) : KT R := fun fr H => opn 16 fr (fun s0 s1 s4 s5 s6 s7 s8 s9 s14 s18 s27 s36 s50 s53 s62 s98 => 
(qO (binop X .shl 3 s8 (.int .u64 6)) fun v64 =>
qAdd X 3 s1 s9 fun v68 =>
qIx s0 v68 fun v69 =>
qO (binop X .and 5 v69 (.int .u8 63)) fun v70 =>
qConvI .i64 v70 fun v71 =>
qO (binop X .or 3 v64 v71) fun v72 =>
k [s0, s1, s4, s5, s6, s7, v72, s9, s14, s18, s27, s36, s50, s53, s62, s98] H : R))
noncomputable def r160_18 (k : KT R) : KT R := fun fr H => opn 16 fr (fun s0 s1 s4 s5 s6 s7 s8 s9 s14 s18 s27 s36 s50 s53 s62 s98 => 
(k [s0, s1, (.int .i64 0), (.int .i64 0), s6, s7, s8, s9, s14, s18, s27, s36, s50, s53, s62, s98] H : R))
noncomputable def r160_17 (k : KT R) : KT R := fun fr H => opn 16 fr (fun s0 s1 s4 s5 s6 s7 s8 s9 s14 s18 s27 s36 s50 s53 s62 s98 => 
(qAdd X 3 s1 s9 fun v59 =>
qIx s0 v59 fun v60 =>
qO (binop X .and 5 v60 (.int .u8 192)) fun v61 =>
qNeq X 5 v61 (.int .u8 128) fun v62 =>
k [s0, s1, s4, s5, s6, s7, s8, s9, s14, s18, s27, s36, s50, s53, v62, s98] H : R))
noncomputable def r160_15 (k : KT R) : KT R := fun fr H => opn 16 fr (fun s0 s1 s4 s5 s6 s7 s8 s9 s14 s18 s27 s36 s50 s53 s62 s98 => 
(qLss X 3 s9 s7 fun v53 =>
k [s0, s1, s4, s5, s6, s7, s8, s9, s14, s18, s27, s36, s50, v53, s62, s98] H : R))
noncomputable def l160_6 (k2 : KT R) (kr : KT R) : KT R → KT R := fun k3 => (r160_15 (qCd (sel 13) (fun k6 => k6) (fun _ => k2) (qBl (fun k4 => (r160_17 (qCd (sel 14) (fun _ => (r160_18 kr)) (fun k5 => k5) (r160_19 k4)))) (r160_16 k3))))
noncomputable def r160_14 (k : KT R) : KT R := fun fr H => opn 16 fr (fun s0 s1 s4 s5 s6 s7 s8 s9 s14 s18 s27 s36 s50 s53 s62 s98 => 
(k [s0, s1, s4, s5, s6, s7, s8, (.int .i64 1), s14, s18, s27, s36, s50, s53, s62, s98] H : R))
noncomputable def r160_13 (k : KT R) : KT R := fun fr H => opn 16 fr (fun s0 s1 s4 s5 s6 s7 s8 s9 s14 s18 s27 s36 s50 s53 s62 s98 => 
(k [s0, s1, (.int .i64 0), (.int .i64 0), s6, s7, s8, s9, s14, s18, s27, s36, s50, s53, s62, s98] H : R))
noncomputable def r160_12 (k : KT R) : KT R := fun fr H => opn 16 fr (fun s0 s1 s4 s5 s6 s7 s8 s9 s14 s18 s27 s36 s50 s53 s62 s98 => 
(qAdd X 3 s1 s7 fun v47 =>
qLenS s0 fun v49 =>
qGtr X 3 v47 v49 fun v50 =>
k [s0, s1, s4, s5, s6, s7, s8, s9, s14, s18, s27, s36, v50, s53, s62, s98] H : R))
noncomputable def r160_5 (k : KT R) : KT R := fun fr H => opn 16 fr (fun s0 s1 s4 s5 s6 s7 s8 s9 s14 s18 s27 s36 s50 s53 s62 s98 => 
(k [s0, s1, s6, (.int .i64 1), s6, s7, s8, s9, s14, s18, s27, s36, s50, s53, s62, s98] H : R))
noncomputable def r160_7 (k : KT R) : KT R := fun fr H => opn 16 fr (fun s0 s1 s4 s5 s6 s7 s8 s9 s14 s18 s27 s36 s50 s53 s62 s98 => 
(qO (binop X .and 3 s6 (.int .i64 31)) fun v26 =>
k [s0, s1, s4, s5, s6, (.int .i64 2), v26, s9, s14, s18, s27, s36, s50, s53, s62, s98] H : R))
noncomputable def r160_9 (k : KT R) : KT R := fun fr H => opn 16 fr (fun s0 s1 s4 s5 s6 s7 s8 s9 s14 s18 s27 s36 s50 s53 s62 s98 => 
(qO (binop X .and 3 s6 (.int .i64 15)) fun v35 =>
k [s0, s1, s4, s5, s6, (.int .i64 3), v35, s9, s14, s18, s27, s36, s50, s53, s62, s98] H : R))
noncomputable def r160_11 (k : KT R) : KT R := fun fr H => opn 16 fr (fun s0 s1 s4 s5 s6 s7 s8 s9 s14 s18 s27 s36 s50 s53 s62 s98 => 
(qO (binop X .and 3 s6 (.int .i64 7)) fun v44 =>
k [s0, s1, s4, s5, s6, (.int .i64 4), v44, s9, s14, s18, s27, s36, s50, s53, s62, s98] H : R))
noncomputable def r160_3 (k : KT R) : KT R := fun fr H => opn 16 fr (fun s0 s1 s4 s5 s6 s7 s8 s9 s14 s18 s27 s36 s50 s53 s62 s98 => 
(k [s0, s1, (.int .i64 0), (.int .i64 0), s6, s7, s8, s9, s14, s18, s27, s36, s50, s53, s62, s98] H : R))
noncomputable def r160_10 (k : KT R) : KT R := fun fr H => opn 16 fr (fun s0 s1 s4 s5 s6 s7 s8 s9 s14 s18 s27 s36 s50 s53 s62 s98 => 
(qGeq X 3 s6 (.int .i64 240) fun v38 =>
qG v38 true (fun k => k s6 H) H fun v40 H =>
qG v38 true (fun k => qLeq X 3 v40 (.int .i64 244) fun v => k v H) H fun v41 H =>
qPick v38 v41 (.bool false) fun v42 =>
k [s0, s1, s4, s5, s6, s7, s8, s9, s14, s18, s27, v42, s50, s53, s62, s98] H : R))
noncomputable def r160_8 (k : KT R) : KT R := fun fr H => opn 16 fr (fun s0 s1 s4 s5 s6 s7 s8 s9 s14 s18 s27 s36 s50 s53 s62 s98 => 
(qGeq X 3 s6 (.int .i64 224) fun v29 =>
qG v29 true (fun k => k s6 H) H fun v31 H =>
qG v29 true (fun k => qLeq X 3 v31 (.int .i64 239) fun v => k v H) H fun v32 H =>
qPick v29 v32 (.bool false) fun v33 =>
k [s0, s1, s4, s5, s6, s7, s8, s9, s14, s18, v33, s36, s50, s53, s62, s98] H : R))
noncomputable def r160_6 (k : KT R) : KT R := fun fr H => opn 16 fr (fun s0 s1 s4 s5 s6 s7 s8 s9 s14 s18 s27 s36 s50 s53 s62 s98 => 
(qGeq X 3 s6 (.int .i64 194) fun v20 =>
qG v20 true (fun k => k s6 H) H fun v22 H =>
qG v20 true (fun k => qLeq X 3 v22 (.int .i64 223) fun v => k v H) H fun v23 H =>
qPick v20 v23 (.bool false) fun v24 =>
k [s0, s1, s4, s5, s6, s7, s8, s9, s14, v24, s27, s36, s50, s53, s62, s98] H : R))
noncomputable def r160_4 (k : KT R) : KT R := fun fr H => opn 16 fr (fun s0 s1 s4 s5 s6 s7 s8 s9 s14 s18 s27 s36 s50 s53 s62 s98 => 
(qLss X 3 s6 (.int .i64 128) fun v16 =>
k [s0, s1, s4, s5, s6, s7, s8, s9, v16, s18, s27, s36, s50, s53, s62, s98] H : R))
noncomputable def r160_2 (k : KT R) : KT R := fun fr H => opn 16 fr (fun s0 s1 s4 s5 s6 s7 s8 s9 s14 s18 s27 s36 s50 s53 s62 s98 => 
(k [s0, s1, s4, s5, s6, (.int .i64 0), (.int .i64 0), s9, s14, s18, s27, s36, s50, s53, s62, s98] H : R))
noncomputable def r160_1 (k : KT R) : KT R := fun fr H => opn 16 fr (fun s0 s1 s4 s5 s6 s7 s8 s9 s14 s18 s27 s36 s50 s53 s62 s98 => 
(qIx s0 s1 fun v12 =>
qConvI .i64 v12 fun v13 =>
k [s0, s1, s4, s5, v13, s7, s8, s9, s14, s18, s27, s36, s50, s53, s62, s98] H : R))
noncomputable def r160_0 (k : KT R) : KT R := fun fr H => opn 16 fr (fun s0 s1 s4 s5 s6 s7 s8 s9 s14 s18 s27 s36 s50 s53 s62 s98 => 
(k [s0, s1, (.int .i64 0), (.int .i64 0), s6, s7, s8, s9, s14, s18, s27, s36, s50, s53, s62, s98] H : R))
noncomputable def c160 (C : CallF) (l0 : List AV) (H : AH) (k : AV → AH → R) : R := opn 2 l0 (fun x0 x1 => (qFn (fun kr => (r160_0 (r160_1 (r160_2 (qBl (fun k8 => (r160_4 (qCd (sel 8) (fun _ => (r160_5 kr)) (fun k9 => (r160_6 (qCd (sel 9) (fun k10 => (r160_7 k10)) (fun k10 => (r160_8 (qCd (sel 10) (fun k11 => (r160_9 k11)) (fun k11 => (r160_10 (qCd (sel 11) (fun k12 => (r160_11 k12)) (fun _ => (r160_3 kr)) k11))) k10))) k9))) k8))) (r160_12 (qCd (sel 12) (fun _ => (r160_13 kr)) (fun k7 => k7) (r160_14 (qBl (fun k2 => (qLoop (l160_6 k2 kr))) (r160_20 (qCd (sel 15) (fun _ => (r160_21 kr)) (fun k1 => k1) (r160_22 kr))))))))))))
(fun fr H => k (.tup [(sel 2 fr), (sel 3 fr)]) H) [x0, x1, undef, undef, undef, undef, undef, undef, undef, undef, undef, undef, undef, undef, undef, undef] H : R))
/- refectory/refectoryref01.Hex -/
noncomputable def r161_15 (k : KT R) : KT R := fun fr H => opn 11 fr (fun s0 s1 s4 s5 s6 s7 s12 s17 s23 s32 s46 => 
(k [s0, s1, s5, s5, s6, s7, s12, s17, s23, s32, s46] H : R))
noncomputable def r161_6 (k : KT R) : KT R := fun fr H => opn 11 fr (fun s0 s1 s4 s5 s6 s7 s12 s17 s23 s32 s46 => 
(qAdd X 3 s6 (.int .i64 1) fun v19 =>
k [s0, s1, s4, s5, v19, s7, s12, s17, s23, s32, s46] H : R))
noncomputable def r161_10 (k : KT R) : KT R := fun fr H => opn 11 fr (fun s0 s1 s4 s5 s6 s7 s12 s17 s23 s32 s46 => 
(qMul X 3 (.int .i64 16) s5 fun v27 =>
qSub X 5 s7 (.int .u8 48) fun v29 =>
qConvI .i64 v29 fun v30 =>
qAdd X 3 v27 v30 fun v31 =>
k [s0, s1, s4, v31, s6, s7, s12, s17, s23, s32, s46] H : R))
noncomputable def r161_12 (k : KT R) : KT R := fun fr H => opn 11 fr (fun s0 s1 s4 s5 s6 s7 s12 s17 s23 s32 s46 => 
(qMul X 3 (.int .i64 16) s5 fun v40 =>
qSub X 5 s7 (.int .u8 97) fun v42 =>
qConvI .i64 v42 fun v43 =>
qAdd X 3 v40 v43 fun v44 =>
qAdd X 3 v44 (.int .i64 10) fun v45 =>
k [s0, s1, s4, v45, s6, s7, s12, s17, s23, s32, s46] H : R))
noncomputable def r161_14 (k : KT R) : KT R := fun fr H => opn 11 fr (fun s0 s1 s4 s5 s6 s7 s12 s17 s23 s32 s46 => 
(qMul X 3 (.int .i64 16) s5 fun v54 =>
qSub X 5 s7 (.int .u8 65) fun v56 =>
qConvI .i64 v56 fun v57 =>
qAdd X 3 v54 v57 fun v58 =>
qAdd X 3 v58 (.int .i64 10) fun v59 =>
k [s0, s1, s4, v59, s6, s7, s12, s17, s23, s32, s46] H : R))
noncomputable def r161_8 (k : KT R) : KT R := fun fr H => opn 11 fr (fun s0 s1 s4 s5 s6 s7 s12 s17 s23 s32 s46 => 
(k [s0, s1, (.int .i64 (-1)), s5, s6, s7, s12, s17, s23, s32, s46] H : R))
noncomputable def r161_13 (k : KT R) : KT R := fun fr H => opn 11 fr (fun s0 s1 s4 s5 s6 s7 s12 s17 s23 s32 s46 => 
(qGeq X 5 s7 (.int .u8 65) fun v48 =>
qG v48 true (fun k => k s7 H) H fun v50 H =>
qG v48 true (fun k => qLeq X 5 v50 (.int .u8 70) fun v => k v H) H fun v51 H =>
qPick v48 v51 (.bool false) fun v52 =>
k [s0, s1, s4, s5, s6, s7, s12, s17, s23, s32, v52] H : R))
noncomputable def r161_11 (k : KT R) : KT R := fun fr H => opn 11 fr (fun s0 s1 s4 s5 s6 s7 s12 s17 s23 s32 s46 => 
(qGeq X 5 s7 (.int .u8 97) fun v34 =>
qG v34 true (fun k => k s7 H) H fun v36 H =>
qG v34 true (fun k => qLeq X 5 v36 (.int .u8 102) fun v => k v H) H fun v37 H =>
qPick v34 v37 (.bool false) fun v38 =>
k [s0, s1, s4, s5, s6, s7, s12, s17, s23, v38, s46] H : R))
noncomputable def r161_9 (C : CallF) (k : KT R) : KT R := fun fr H => opn 11 fr (fun s0 s1 s4 s5 s6 s7 s12 s17 s23 s32 s46 => 
(qRes (C 95 [s7] H) fun v25 H =>
k [s0, s1, s4, s5, s6, s7, s12, s17, v25, s32, s46] H : R))
noncomputable def r161_7 (k : KT R) : KT R := fun fr H => opn 11 fr (fun s0 s1 s4 s5 s6 s7 s12 s17 s23 s32 s46 => 
(qIx s0 s6 fun v22 =>
k [s0, s1, s4, s5, s6, v22, s12, s17, s23, s32, s46] H : R))
noncomputable def r161_5 (k : KT R) : KT R := fun fr H => opn 11 fr (fun s0 s1 s4 s5 s6 s7 s12 s17 s23 s32 s46 => 
(qAdd X 3 s1 (.int .i64 4) fun v16 =>
qLss X 3 s6 v16 fun v17 =>
k [s0, s1, s4, s5, s6, s7, s12, v17, s23, s32, s46] H : R))
noncomputable def l161_8 (C : CallF) (k1 : KT R) (kr : KT R) : KT R → KT R := fun k2 => (r161_5 (qCd (sel 7) (fun k8 => k8) (fun _ => k1) (qBl (fun k3 => (r161_7 (qBl (fun k4 => (r161_9 C (qCd (sel 8) (fun k5 => (r161_10 k5)) (fun k5 => (r161_11 (qCd (sel 9) (fun k6 => (r161_12 k6)) (fun k6 => (r161_13 (qCd (sel 10) (fun k7 => (r161_14 k7)) (fun _ => (r161_8 kr)) k6))) k5))) k4))) k3))) (r161_6 k2))))
noncomputable def r161_4 (k : KT R) : KT R := fun fr H => opn 11 fr (fun s0 s1 s4 s5 s6 s7 s12 s17 s23 s32 s46 => 
(k [s0, s1, s4, s5, s1, s7, s12, s17, s23, s32, s46] H : R))
noncomputable def r161_3 (k : KT R) : KT R := fun fr H => opn 11 fr (fun s0 s1 s4 s5 s6 s7 s12 s17 s23 s32 s46 => 
(k [s0, s1, s4, (.int .i64 0), s6, s7, s12, s17, s23, s32, s46] H : R))
noncomputable def r161_2 (k : KT R) : KT R := fun fr H => opn 11 fr (fun s0 s1 s4 s5 s6 s7 s12 s17 s23 s32 s46 => 
(k [s0, s1, (.int .i64 (-1)), s5, s6, s7, s12, s17, s23, s32, s46] H : R))
noncomputable def r161_1 (k : KT R) : KT R := fun fr H => opn 11 fr (fun s0 s1 s4 s5 s6 s7 s12 s17 s23 s32 s46 => 
(qAdd X 3 s1 (.int .i64 4) fun v9 =>
qLenS s0 fun v11 =>
qGtr X 3 v9 v11 fun v12 =>
k [s0, s1, s4, s5, s6, s7, v12, s17, s23, s32, s46] H : R))
noncomputable def r161_0 (k : KT R) : KT R := fun fr H => opn 11 fr (fun s0 s1 s4 s5 s6 s7 s12 s17 s23 s32 s46 => 
(k [s0, s1, (.int .i64 0), s5, s6, s7, s12, s17, s23, s32, s46] H : R))
noncomputable def c161 (C : CallF) (l0 : List AV) (H : AH) (k : AV → AH → R) : R := opn 2 l0 (fun x0 x1 => (qFn (fun kr => (r161_0 (r161_1 (qCd (sel 6) (fun _ => (r161_2 kr)) (fun k9 => k9) (r161_3 (r161_4 (qBl (fun k1 => (qLoop (l161_8 C k1 kr))) (r161_15 kr))))))))
(fun fr H => k (sel 2 fr) H) [x0, x1, undef, undef, undef, undef, undef, undef, undef, undef, undef] H : R))
end
theorem e71 {R : Type} [Mon R] : hFn (R := R) X 71 Try.f71 2 [0, 1, 4] = c71 := by kernel_rfl
theorem xf71 : X.fn 71 = some Try.f71 := by kernel_rfl
theorem e72 {R : Type} [Mon R] : hFn (R := R) X 72 Try.f72 2 [0, 1, 4, 5, 7, 8, 9, 16] = c72 := by kernel_rfl
theorem xf72 : X.fn 72 = some Try.f72 := by kernel_rfl
theorem e73 {R : Type} [Mon R] : hFn (R := R) X 73 Try.f73 2 [0, 1, 2, 3] = c73 := by kernel_rfl
theorem xf73 : X.fn 73 = some Try.f73 := by kernel_rfl
theorem e74 {R : Type} [Mon R] : hFn (R := R) X 74 Try.f74 2 [0, 1, 2, 4, 5, 7, 8, 9, 10, 22, 38, 48, 80] = c74 := by kernel_rfl
theorem xf74 : X.fn 74 = some Try.f74 := by kernel_rfl
theorem e75 {R : Type} [Mon R] : hFn (R := R) X 75 Try.f75 1 [0, 2, 3, 4, 8, 16] = c75 := by kernel_rfl
theorem xf75 : X.fn 75 = some Try.f75 := by kernel_rfl
theorem e76 {R : Type} [Mon R] : hFn (R := R) X 76 Try.f76 2 [0, 1, 4, 5, 9, 17] = c76 := by kernel_rfl
theorem xf76 : X.fn 76 = some Try.f76 := by kernel_rfl
theorem e77 {R : Type} [Mon R] : hFn (R := R) X 77 Try.f77 3 [0, 1, 2, 4, 6, 7, 8, 9, 17, 32, 77, 100] = c77 := by kernel_rfl
theorem xf77 : X.fn 77 = some Try.f77 := by kernel_rfl
theorem e78 {R : Type} [Mon R] : hFn (R := R) X 78 Try.f78 1 [0, 2] = c78 := by kernel_rfl
theorem xf78 : X.fn 78 = some Try.f78 := by kernel_rfl
theorem e79 {R : Type} [Mon R] : hFn (R := R) X 79 Try.f79 3 [0, 1, 2, 6, 7, 8, 10, 11, 12, 14, 15, 16, 43] = c79 := by kernel_rfl
theorem xf79 : X.fn 79 = some Try.f79 := by kernel_rfl
theorem e80 {R : Type} [Mon R] : hFn (R := R) X 80 Try.f80 4 [0, 1, 2, 3, 8, 9, 10, 11, 12, 15, 16, 17, 22, 34, 75, 101] = c80 := by kernel_rfl
theorem xf80 : X.fn 80 = some Try.f80 := by kernel_rfl
theorem e81 {R : Type} [Mon R] : hFn (R := R) X 81 Try.f81 2 [0, 1, 3, 4, 5] = c81 := by kernel_rfl
theorem xf81 : X.fn 81 = some Try.f81 := by kernel_rfl
theorem e82 {R : Type} [Mon R] : hFn (R := R) X 82 Try.f82 2 [0, 1, 4, 5, 6, 7, 18] = c82 := by kernel_rfl
theorem xf82 : X.fn 82 = some Try.f82 := by kernel_rfl
theorem e83 {R : Type} [Mon R] : hFn (R := R) X 83 Try.f83 3 [0, 1, 2, 4, 6, 7, 8, 9, 10, 22, 37, 38, 39] = c83 := by kernel_rfl
theorem xf83 : X.fn 83 = some Try.f83 := by kernel_rfl
theorem e84 {R : Type} [Mon R] : hFn (R := R) X 84 Try.f84 3 [0, 1, 2, 6, 13] = c84 := by kernel_rfl
theorem xf84 : X.fn 84 = some Try.f84 := by kernel_rfl
theorem e85 {R : Type} [Mon R] : hFn (R := R) X 85 Try.f85 2 [0, 1, 7] = c85 := by kernel_rfl
theorem xf85 : X.fn 85 = some Try.f85 := by kernel_rfl
theorem e86 {R : Type} [Mon R] : hFn (R := R) X 86 Try.f86 2 [0, 1, 4, 5, 11] = c86 := by kernel_rfl
theorem xf86 : X.fn 86 = some Try.f86 := by kernel_rfl
theorem e87 {R : Type} [Mon R] : hFn (R := R) X 87 Try.f87 1 [0, 2, 3, 4, 21, 28] = c87 := by kernel_rfl
theorem xf87 : X.fn 87 = some Try.f87 := by kernel_rfl
theorem e88 {R : Type} [Mon R] : hFn (R := R) X 88 Try.f88 1 [0, 2, 3, 20] = c88 := by kernel_rfl
theorem xf88 : X.fn 88 = some Try.f88 := by kernel_rfl
theorem e89 {R : Type} [Mon R] : hFn (R := R) X 89 Try.f89 3 [0, 1, 2, 6, 7, 26] = c89 := by kernel_rfl
theorem xf89 : X.fn 89 = some Try.f89 := by kernel_rfl
theorem e90 {R : Type} [Mon R] : hFn (R := R) X 90 Try.f90 2 [0, 1, 4] = c90 := by kernel_rfl
theorem xf90 : X.fn 90 = some Try.f90 := by kernel_rfl
theorem e91 {R : Type} [Mon R] : hFn (R := R) X 91 Try.f91 2 [0, 1, 2, 3] = c91 := by kernel_rfl
theorem xf91 : X.fn 91 = some Try.f91 := by kernel_rfl
theorem e92 {R : Type} [Mon R] : hFn (R := R) X 92 Try.f92 3 [0, 1, 2, 4, 6, 7, 8, 13, 22] = c92 := by kernel_rfl
theorem xf92 : X.fn 92 = some Try.f92 := by kernel_rfl
theorem e93 {R : Type} [Mon R] : hFn (R := R) X 93 Try.f93 2 [0, 1, 2, 4, 5, 7, 9, 10, 18, 19, 20, 21, 75] = c93 := by kernel_rfl
theorem xf93 : X.fn 93 = some Try.f93 := by kernel_rfl
theorem e94 {R : Type} [Mon R] : hFn (R := R) X 94 Try.f94 1 [0, 2] = c94 := by kernel_rfl
theorem xf94 : X.fn 94 = some Try.f94 := by kernel_rfl
theorem e95 {R : Type} [Mon R] : hFn (R := R) X 95 Try.f95 1 [0, 2] = c95 := by kernel_rfl
theorem xf95 : X.fn 95 = some Try.f95 := by kernel_rfl
theorem e96 {R : Type} [Mon R] : hFn (R := R) X 96 Try.f96 1 [0, 2] = c96 := by kernel_rfl
theorem xf96 : X.fn 96 = some Try.f96 := by kernel_rfl
theorem e97 {R : Type} [Mon R] : hFn (R := R) X 97 Try.f97 1 [0, 2, 3, 4, 5, 6, 9, 19, 36, 49, 55, 75, 93, 100, 107] = c97 := by kernel_rfl
theorem xf97 : X.fn 97 = some Try.f97 := by kernel_rfl
theorem e98 {R : Type} [Mon R] : hFn (R := R) X 98 Try.f98 2 [0, 1, 4, 5, 6, 7, 8, 9, 22, 53, 57, 65] = c98 := by kernel_rfl
theorem xf98 : X.fn 98 = some Try.f98 := by kernel_rfl
theorem e99 {R : Type} [Mon R] : hFn (R := R) X 99 Try.f99 2 [0, 1, 4, 5, 6, 7, 10, 15, 29, 43, 52] = c99 := by kernel_rfl
theorem xf99 : X.fn 99 = some Try.f99 := by kernel_rfl
theorem e100 {R : Type} [Mon R] : hFn (R := R) X 100 Try.f100 3 [0, 1, 2, 10] = c100 := by kernel_rfl
theorem xf100 : X.fn 100 = some Try.f100 := by kernel_rfl
theorem e101 {R : Type} [Mon R] : hFn (R := R) X 101 Try.f101 1 [0, 2, 3, 4, 5, 27] = c101 := by kernel_rfl
theorem xf101 : X.fn 101 = some Try.f101 := by kernel_rfl
theorem e102 {R : Type} [Mon R] : hFn (R := R) X 102 Try.f102 2 [0, 1, 4, 5, 6, 13, 19, 49, 61, 68] = c102 := by kernel_rfl
theorem xf102 : X.fn 102 = some Try.f102 := by kernel_rfl
theorem e103 {R : Type} [Mon R] : hFn (R := R) X 103 Try.f103 1 [0, 2, 3, 4, 7, 22] = c103 := by kernel_rfl
theorem xf103 : X.fn 103 = some Try.f103 := by kernel_rfl
theorem e104 {R : Type} [Mon R] : hFn (R := R) X 104 Try.f104 2 [0, 1, 2, 4, 5] = c104 := by kernel_rfl
theorem xf104 : X.fn 104 = some Try.f104 := by kernel_rfl
theorem e105 {R : Type} [Mon R] : hFn (R := R) X 105 Try.f105 2 [0, 1, 4, 5, 7, 8, 9, 16] = c105 := by kernel_rfl
theorem xf105 : X.fn 105 = some Try.f105 := by kernel_rfl
theorem e106 {R : Type} [Mon R] : hFn (R := R) X 106 Try.f106 2 [0, 1, 4] = c106 := by kernel_rfl
theorem xf106 : X.fn 106 = some Try.f106 := by kernel_rfl
theorem e107 {R : Type} [Mon R] : hFn (R := R) X 107 Try.f107 2 [0, 1, 2, 3] = c107 := by kernel_rfl
theorem xf107 : X.fn 107 = some Try.f107 := by kernel_rfl
theorem e108 {R : Type} [Mon R] : hFn (R := R) X 108 Try.f108 3 [0, 1, 2, 4] = c108 := by kernel_rfl
theorem xf108 : X.fn 108 = some Try.f108 := by kernel_rfl
theorem e109 {R : Type} [Mon R] : hFn (R := R) X 109 Try.f109 3 [0, 1, 2, 3, 6, 7] = c109 := by kernel_rfl
theorem xf109 : X.fn 109 = some Try.f109 := by kernel_rfl
theorem e110 {R : Type} [Mon R] : hFn (R := R) X 110 Try.f110 5 [0, 1, 2, 3, 4, 5, 6, 7, 9, 10, 12, 13, 31, 50] = c110 := by kernel_rfl
theorem xf110 : X.fn 110 = some Try.f110 := by kernel_rfl
theorem e111 {R : Type} [Mon R] : hFn (R := R) X 111 Try.f111 3 [0, 1, 2, 3, 5, 6, 7, 8, 10, 11, 35, 47] = c111 := by kernel_rfl
theorem xf111 : X.fn 111 = some Try.f111 := by kernel_rfl
theorem e112 {R : Type} [Mon R] : hFn (R := R) X 112 Try.f112 2 [0, 1, 4, 5, 7, 8, 9, 16] = c112 := by kernel_rfl
theorem xf112 : X.fn 112 = some Try.f112 := by kernel_rfl
theorem e113 {R : Type} [Mon R] : hFn (R := R) X 113 Try.f113 4 [0, 1, 2, 3, 6, 7, 8, 9, 16, 28] = c113 := by kernel_rfl
theorem xf113 : X.fn 113 = some Try.f113 := by kernel_rfl
theorem e114 {R : Type} [Mon R] : hFn (R := R) X 114 Try.f114 1 [0, 1, 2, 5] = c114 := by kernel_rfl
theorem xf114 : X.fn 114 = some Try.f114 := by kernel_rfl
theorem e115 {R : Type} [Mon R] : hFn (R := R) X 115 Try.f115 3 [0, 1, 2, 4, 6, 7, 8, 9, 10, 12, 13, 25, 35, 50, 55, 80, 100, 109, 124, 152, 165] = c115 := by kernel_rfl
theorem xf115 : X.fn 115 = some Try.f115 := by kernel_rfl
theorem e116 {R : Type} [Mon R] : hFn (R := R) X 116 Try.f116 1 [0, 1, 2, 8] = c116 := by kernel_rfl
theorem xf116 : X.fn 116 = some Try.f116 := by kernel_rfl
theorem e117 {R : Type} [Mon R] : hFn (R := R) X 117 Try.f117 2 [0, 1, 3, 4, 5, 6, 7, 8, 9, 15, 50, 95] = c117 := by kernel_rfl
theorem xf117 : X.fn 117 = some Try.f117 := by kernel_rfl
theorem e118 {R : Type} [Mon R] : hFn (R := R) X 118 Try.f118 2 [0, 1, 4, 5, 6, 9, 15, 24] = c118 := by kernel_rfl
theorem xf118 : X.fn 118 = some Try.f118 := by kernel_rfl
theorem e119 {R : Type} [Mon R] : hFn (R := R) X 119 Try.f119 3 [0, 1, 2, 6, 15] = c119 := by kernel_rfl
theorem xf119 : X.fn 119 = some Try.f119 := by kernel_rfl
theorem e120 {R : Type} [Mon R] : hFn (R := R) X 120 Try.f120 1 [0, 2, 3, 6, 9, 16, 23] = c120 := by kernel_rfl
theorem xf120 : X.fn 120 = some Try.f120 := by kernel_rfl
theorem e121 {R : Type} [Mon R] : hFn (R := R) X 121 Try.f121 1 [0, 2, 3, 15] = c121 := by kernel_rfl
theorem xf121 : X.fn 121 = some Try.f121 := by kernel_rfl
theorem e122 {R : Type} [Mon R] : hFn (R := R) X 122 Try.f122 2 [0, 1, 4, 5, 7, 8, 9, 16] = c122 := by kernel_rfl
theorem xf122 : X.fn 122 = some Try.f122 := by kernel_rfl
theorem e123 {R : Type} [Mon R] : hFn (R := R) X 123 Try.f123 2 [0, 1, 4, 5, 7, 8, 9, 16] = c123 := by kernel_rfl
theorem xf123 : X.fn 123 = some Try.f123 := by kernel_rfl
theorem e124 {R : Type} [Mon R] : hFn (R := R) X 124 Try.f124 1 [0, 1, 2] = c124 := by kernel_rfl
theorem xf124 : X.fn 124 = some Try.f124 := by kernel_rfl
theorem e125 {R : Type} [Mon R] : hFn (R := R) X 125 Try.f125 2 [0, 1, 2, 4, 5, 6, 7, 9, 10, 11, 12, 30] = c125 := by kernel_rfl
theorem xf125 : X.fn 125 = some Try.f125 := by kernel_rfl
theorem e126 {R : Type} [Mon R] : hFn (R := R) X 126 Try.f126 2 [0, 1, 2, 3, 4, 5, 6, 11, 19] = c126 := by kernel_rfl
theorem xf126 : X.fn 126 = some Try.f126 := by kernel_rfl
theorem e127 {R : Type} [Mon R] : hFn (R := R) X 127 Try.f127 2 [0, 1, 4, 5, 19] = c127 := by kernel_rfl
theorem xf127 : X.fn 127 = some Try.f127 := by kernel_rfl
theorem e128 {R : Type} [Mon R] : hFn (R := R) X 128 Try.f128 2 [0, 1, 4, 5, 6, 7, 11, 21, 41, 59] = c128 := by kernel_rfl
theorem xf128 : X.fn 128 = some Try.f128 := by kernel_rfl
theorem e129 {R : Type} [Mon R] : hFn (R := R) X 129 Try.f129 1 [0, 2, 3, 4, 5, 6, 7, 8, 29, 38, 48, 61, 69] = c129 := by kernel_rfl
theorem xf129 : X.fn 129 = some Try.f129 := by kernel_rfl
theorem e130 {R : Type} [Mon R] : hFn (R := R) X 130 Try.f130 2 [0, 1, 4, 5, 6, 7, 8, 9, 20] = c130 := by kernel_rfl
theorem xf130 : X.fn 130 = some Try.f130 := by kernel_rfl
theorem e131 {R : Type} [Mon R] : hFn (R := R) X 131 Try.f131 1 [0, 2, 3, 4, 9] = c131 := by kernel_rfl
theorem xf131 : X.fn 131 = some Try.f131 := by kernel_rfl
theorem e132 {R : Type} [Mon R] : hFn (R := R) X 132 Try.f132 5 [0, 1, 2, 3, 4, 10, 11, 15, 29, 31] = c132 := by kernel_rfl
theorem xf132 : X.fn 132 = some Try.f132 := by kernel_rfl
theorem e133 {R : Type} [Mon R] : hFn (R := R) X 133 Try.f133 2 [0, 1, 4, 5, 7, 8, 9, 16] = c133 := by kernel_rfl
theorem xf133 : X.fn 133 = some Try.f133 := by kernel_rfl
theorem e134 {R : Type} [Mon R] : hFn (R := R) X 134 Try.f134 2 [0, 1, 4] = c134 := by kernel_rfl
theorem xf134 : X.fn 134 = some Try.f134 := by kernel_rfl
theorem e135 {R : Type} [Mon R] : hFn (R := R) X 135 Try.f135 2 [0, 1, 3] = c135 := by kernel_rfl
theorem xf135 : X.fn 135 = some Try.f135 := by kernel_rfl
theorem e136 {R : Type} [Mon R] : hFn (R := R) X 136 Try.f136 2 [0, 1, 4, 5, 7, 8, 9, 16] = c136 := by kernel_rfl
theorem xf136 : X.fn 136 = some Try.f136 := by kernel_rfl
theorem e137 {R : Type} [Mon R] : hFn (R := R) X 137 Try.f137 2 [0, 1, 2, 3] = c137 := by kernel_rfl
theorem xf137 : X.fn 137 = some Try.f137 := by kernel_rfl
theorem e138 {R : Type} [Mon R] : hFn (R := R) X 138 Try.f138 1 [0, 1, 2, 5] = c138 := by kernel_rfl
theorem xf138 : X.fn 138 = some Try.f138 := by kernel_rfl
theorem e139 {R : Type} [Mon R] : hFn (R := R) X 139 Try.f139 1 [0, 1, 2, 5] = c139 := by kernel_rfl
theorem xf139 : X.fn 139 = some Try.f139 := by kernel_rfl
theorem e140 {R : Type} [Mon R] : hFn (R := R) X 140 Try.f140 1 [0, 2] = c140 := by kernel_rfl
theorem xf140 : X.fn 140 = some Try.f140 := by kernel_rfl
theorem e141 {R : Type} [Mon R] : hFn (R := R) X 141 Try.f141 2 [0, 1, 3, 4, 5] = c141 := by kernel_rfl
theorem xf141 : X.fn 141 = some Try.f141 := by kernel_rfl
theorem e142 {R : Type} [Mon R] : hFn (R := R) X 142 Try.f142 3 [0, 1, 2, 6] = c142 := by kernel_rfl
theorem xf142 : X.fn 142 = some Try.f142 := by kernel_rfl
theorem e143 {R : Type} [Mon R] : hFn (R := R) X 143 Try.f143 2 [0, 1, 4, 5, 7, 8, 9, 14, 16, 17, 18, 19, 23, 24, 25, 54, 59] = c143 := by kernel_rfl
theorem xf143 : X.fn 143 = some Try.f143 := by kernel_rfl
theorem e144 {R : Type} [Mon R] : hFn (R := R) X 144 Try.f144 1 [0, 2, 4, 6] = c144 := by kernel_rfl
theorem xf144 : X.fn 144 = some Try.f144 := by kernel_rfl
theorem e146 {R : Type} [Mon R] : hFn (R := R) X 146 Try.f146 2 [0, 1, 4] = c146 := by kernel_rfl
theorem xf146 : X.fn 146 = some Try.f146 := by kernel_rfl
theorem e147 {R : Type} [Mon R] : hFn (R := R) X 147 Try.f147 1 [0, 2, 3, 4, 5, 8, 13, 18, 30] = c147 := by kernel_rfl
theorem xf147 : X.fn 147 = some Try.f147 := by kernel_rfl
theorem e148 {R : Type} [Mon R] : hFn (R := R) X 148 Try.f148 2 [0, 1, 4, 5, 7, 8, 9, 16] = c148 := by kernel_rfl
theorem xf148 : X.fn 148 = some Try.f148 := by kernel_rfl
theorem e149 {R : Type} [Mon R] : hFn (R := R) X 149 Try.f149 2 [0, 1, 2, 3] = c149 := by kernel_rfl
theorem xf149 : X.fn 149 = some Try.f149 := by kernel_rfl
theorem e150 {R : Type} [Mon R] : hFn (R := R) X 150 Try.f150 1 [0, 2] = c150 := by kernel_rfl
theorem xf150 : X.fn 150 = some Try.f150 := by kernel_rfl
theorem e152 {R : Type} [Mon R] : hFn (R := R) X 152 Try.f152 1 [0, 2, 3, 5, 9, 17] = c152 := by kernel_rfl
theorem xf152 : X.fn 152 = some Try.f152 := by kernel_rfl
theorem e153 {R : Type} [Mon R] : hFn (R := R) X 153 Try.f153 2 [0, 1, 4, 5, 6, 7, 11, 14, 15, 24, 26, 28, 30, 32, 34, 66, 76, 94] = c153 := by kernel_rfl
theorem xf153 : X.fn 153 = some Try.f153 := by kernel_rfl
theorem e154 {R : Type} [Mon R] : hFn (R := R) X 154 Try.f154 2 [0, 1, 4, 5, 6, 7, 10, 17, 44] = c154 := by kernel_rfl
theorem xf154 : X.fn 154 = some Try.f154 := by kernel_rfl
theorem e155 {R : Type} [Mon R] : hFn (R := R) X 155 Try.f155 2 [0, 1, 4, 5, 7, 8, 9, 16] = c155 := by kernel_rfl
theorem xf155 : X.fn 155 = some Try.f155 := by kernel_rfl
theorem e156 {R : Type} [Mon R] : hFn (R := R) X 156 Try.f156 2 [0, 1, 2, 3, 4, 5, 6, 36, 39, 44, 45, 46, 47, 58] = c156 := by kernel_rfl
theorem xf156 : X.fn 156 = some Try.f156 := by kernel_rfl
theorem e158 {R : Type} [Mon R] : hFn (R := R) X 158 Try.f158 1 [0, 2, 3, 4, 5, 9, 21, 46] = c158 := by kernel_rfl
theorem xf158 : X.fn 158 = some Try.f158 := by kernel_rfl
theorem e159 {R : Type} [Mon R] : hFn (R := R) X 159 Try.f159 1 [0, 2, 3, 19] = c159 := by kernel_rfl
theorem xf159 : X.fn 159 = some Try.f159 := by kernel_rfl
theorem e160 {R : Type} [Mon R] : hFn (R := R) X 160 Try.f160 2 [0, 1, 4, 5, 6, 7, 8, 9, 14, 18, 27, 36, 50, 53, 62, 98] = c160 := by kernel_rfl
theorem xf160 : X.fn 160 = some Try.f160 := by kernel_rfl
theorem e161 {R : Type} [Mon R] : hFn (R := R) X 161 Try.f161 2 [0, 1, 4, 5, 6, 7, 12, 17, 23, 32, 46] = c161 := by kernel_rfl
theorem xf161 : X.fn 161 = some Try.f161 := by kernel_rfl
end T
