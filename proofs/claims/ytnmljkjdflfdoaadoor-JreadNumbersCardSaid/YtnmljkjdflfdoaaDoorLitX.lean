import Derived.Test.YtnmljkjdflfdoaaDoorLitRd
set_option linter.all false
set_option maxRecDepth 100000
set_option linter.unusedVariables false
open Go Go.Aes Go.Proofs
namespace T
section
variable {R : Type} [Mon R]
/- refectory/refectorylaw03.JreadNumbers -/
noncomputable def r6_10 (C : CallF) (k : KT R) : KT R := fun fr H => opn 13 fr (fun s0 s1 s2 s6 s7 s8 s9 s10 s11 s12 s13 s48 s78 => 
(qEql X 3 s9 (.int .i64 5) fun v80 =>
qG v80 false (fun k => qFa 3 s11 fun v => k v H) H fun v82 H =>
qG v80 false (fun k => qLd v82 H fun v => k v H) H fun v83 H =>
qG v80 false (fun k => qIa 4 v83 (.int .i64 0) fun v => k v H) H fun v84 H =>
qG v80 false (fun k => qFa 1 v84 fun v => k v H) H fun v85 H =>
qG v80 false (fun k => qLd v85 H fun v => k v H) H fun v86 H =>
qG v80 false (fun k => k s10 H) H fun v87 H =>
qG v80 false (fun k => qEql X 9 v86 v87 fun v => k v H) H fun v88 H =>
qPick v80 (.bool true) v88 fun v89 =>
qG v89 true (fun k => qRes (C 7 [] H) k) H fun v91 H =>
qPick v89 v91 (.bool false) fun v92 =>
k [s0, s1, s2, v92, s7, s8, s9, s10, s11, s12, s13, s48, s78] H : R))
noncomputable def r6_9 (k : KT R) : KT R := fun fr H => opn 13 fr (fun s0 s1 s2 s6 s7 s8 s9 s10 s11 s12 s13 s48 s78 => 
(k [s0, s1, s2, (.bool false), s7, s8, s9, s10, s11, s12, s13, s48, s78] H : R))
noncomputable def r6_8 (k : KT R) : KT R := fun fr H => opn 13 fr (fun s0 s1 s2 s6 s7 s8 s9 s10 s11 s12 s13 s48 s78 => 
(qNeq X 27 s12 (.int .i64 0) fun v63 =>
qG v63 false (fun k => qFa 3 s11 fun v => k v H) H fun v65 H =>
qG v63 false (fun k => qLd v65 H fun v => k v H) H fun v66 H =>
qG v63 false (fun k => qLenL v66 fun v => k v H) H fun v67 H =>
qG v63 false (fun k => qNeq X 3 v67 (.int .i64 1) fun v => k v H) H fun v68 H =>
qPick v63 (.bool true) v68 fun v69 =>
qG v69 false (fun k => qFa 3 s11 fun v => k v H) H fun v71 H =>
qG v69 false (fun k => qLd v71 H fun v => k v H) H fun v72 H =>
qG v69 false (fun k => qIa 4 v72 (.int .i64 0) fun v => k v H) H fun v73 H =>
qG v69 false (fun k => qFa 0 v73 fun v => k v H) H fun v74 H =>
qG v69 false (fun k => qLd v74 H fun v => k v H) H fun v75 H =>
qG v69 false (fun k => k s13 H) H fun v76 H =>
qG v69 false (fun k => qNeq X 3 v75 v76 fun v => k v H) H fun v77 H =>
qPick v69 (.bool true) v77 fun v78 =>
k [s0, s1, s2, s6, s7, s8, s9, s10, s11, s12, s13, s48, v78] H : R))
noncomputable def r6_7 (k : KT R) : KT R := fun fr H => opn 13 fr (fun s0 s1 s2 s6 s7 s8 s9 s10 s11 s12 s13 s48 s78 => 
(qBld z43 [(0, 1, (.int .i64 3)), (1, 1, (.int .i64 3)), (2, 1, (.int .i64 4)), (3, 1, (.int .i64 4)), (4, 1, (.int .i64 2)), (5, 1, (.int .i64 1))] fun v59 =>
qO (indexOf X 43 v59 s9) fun v61 =>
k [s0, s1, s2, s6, s7, s8, s9, s10, s11, s12, v61, s48, s78] H : R))
noncomputable def r6_6 (C : CallF) (k : KT R) : KT R := fun fr H => opn 13 fr (fun s0 s1 s2 s6 s7 s8 s9 s10 s11 s12 s13 s48 s78 => 
(qEql X 27 s12 (.int .i64 2) fun v50 =>
qG v50 true (fun k => qFa 0 s11 fun v => k v H) H fun v52 H =>
qG v50 true (fun k => qLd v52 H fun v => k v H) H fun v53 H =>
qG v50 true (fun k => qEql X 3 v53 (.int .i64 0) fun v => k v H) H fun v54 H =>
qPick v50 v54 (.bool false) fun v55 =>
qG v55 true (fun k => qRes (C 7 [] H) k) H fun v57 H =>
qPick v55 v57 (.bool false) fun v58 =>
k [s0, s1, s2, v58, s7, s8, s9, s10, s11, s12, s13, s48, s78] H : R))
noncomputable def r6_5 (k : KT R) : KT R := fun fr H => opn 13 fr (fun s0 s1 s2 s6 s7 s8 s9 s10 s11 s12 s13 s48 s78 => 
(qGtr X 3 s9 (.int .i64 5) fun v48 =>
k [s0, s1, s2, s6, s7, s8, s9, s10, s11, s12, s13, v48, s78] H : R))
noncomputable def r6_4 (C : CallF) (k : KT R) : KT R := fun fr H => opn 13 fr (fun s0 s1 s2 s6 s7 s8 s9 s10 s11 s12 s13 s48 s78 => 
(qAdd X 9 (.str [91]) s10 fun v42 =>
qAdd X 9 v42 (.str [93]) fun v43 =>
qRes (C 8 [v43] H) fun v44 H =>
qExt v44 0 fun v45 =>
qExt v44 1 fun v46 =>
qNew (.cells z26) .ptr H fun v11 H =>
qSt 4 v11 v45 H fun _ H =>
k [s0, s1, s2, s6, s7, s8, s9, s10, v11, v46, s13, s48, s78] H : R))
noncomputable def r6_3 (k : KT R) : KT R := fun fr H => opn 13 fr (fun s0 s1 s2 s6 s7 s8 s9 s10 s11 s12 s13 s48 s78 => 
(qAdd X 9 (.str [45]) s7 fun v24 =>
qAdd X 9 s7 (.str [46]) fun v26 =>
qAdd X 9 v26 s8 fun v28 =>
qAdd X 9 s7 (.str [101,45]) fun v30 =>
qAdd X 9 v30 s8 fun v32 =>
qAdd X 9 s7 (.str [46]) fun v34 =>
qAdd X 9 (.str [48]) s7 fun v36 =>
qBld z42 [(0, 1, s7), (1, 1, v24), (2, 1, v28), (3, 1, v32), (4, 1, (.str [116,114,117,101])), (5, 1, (.str [110,117,108,108])), (6, 1, v34), (7, 1, v36), (8, 1, (.str [116,114,117])), (9, 1, (.str [110,117,108])), (10, 1, (.str [84,114,117,101])), (11, 1, (.str [39,97,39]))] fun v37 =>
qO (indexOf X 42 v37 s9) fun v39 =>
k [s0, s1, s2, s6, s7, s8, s9, v39, s11, s12, s13, s48, s78] H : R))
noncomputable def r6_2 (C : CallF) (k : KT R) : KT R := fun fr H => opn 13 fr (fun s0 s1 s2 s6 s7 s8 s9 s10 s11 s12 s13 s48 s78 => 
(qRes (C 13 [s2, (.int .i64 12)] H) fun v21 H =>
k [s0, s1, s2, s6, s7, s8, v21, s10, s11, s12, s13, s48, s78] H : R))
noncomputable def r6_1 (C : CallF) (k : KT R) : KT R := fun fr H => opn 13 fr (fun s0 s1 s2 s6 s7 s8 s9 s10 s11 s12 s13 s48 s78 => 
(qRes (C 13 [s0, (.int .i64 1000000)] H) fun v15 H =>
qRes (C 14 [v15] H) fun v16 H =>
qRes (C 13 [s1, (.int .i64 1000)] H) fun v18 H =>
qRes (C 14 [v18] H) fun v19 H =>
k [s0, s1, s2, s6, v16, v19, s9, s10, s11, s12, s13, s48, s78] H : R))
noncomputable def r6_0 (k : KT R) : KT R := fun fr H => opn 13 fr (fun s0 s1 s2 s6 s7 s8 s9 s10 s11 s12 s13 s48 s78 => 
(k [s0, s1, s2, (.bool false), s7, s8, s9, s10, s11, s12, s13, s48, s78] H : R))
noncomputable def c6 (C : CallF) (l0 : List AV) (H : AH) (k : AV → AH → R) : R := opn 3 l0 (fun x0 x1 x2 => (qFn (fun kr => (r6_0 (r6_1 C (r6_2 C (r6_3 (r6_4 C (r6_5 (qCd (sel 11) (fun _ => (r6_6 C kr)) (fun k2 => k2) (r6_7 (r6_8 (qCd (sel 12) (fun _ => (r6_9 kr)) (fun k1 => k1) (r6_10 C kr))))))))))))
(fun fr H => k (sel 3 fr) H) [x0, x1, x2, Aes.undef, Aes.undef, Aes.undef, Aes.undef, Aes.undef, Aes.undef, Aes.undef, Aes.undef, Aes.undef, Aes.undef] H : R))
end
theorem e6 {R : Type} [Mon R] : hFn (R := R) X 6 Tryd.f6 3 [0, 1, 2, 6, 7, 8, 9, 10, 11, 12, 13, 48, 78] = c6 := by kernel_rfl
theorem xf6 : X.fn 6 = some Tryd.f6 := by kernel_rfl
end T
