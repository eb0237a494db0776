import Derived.Test.YtpndehigidcchaaGreatDoorTabRd
import Derived.Test.YtpndehigidcchaaGreatDoorS8
set_option linter.all false
set_option maxRecDepth 100000
set_option linter.unusedVariables false
open Go Go.Aes Go.Proofs
namespace T
noncomputable def z3 : List AV := [.int .i64 0]
noncomputable def z5 : List AV := [.int .u8 0]
noncomputable def z9 : List AV := [.str []]
noncomputable def z32 : List AV := [.str [], .str [], .str [], .str [], .str []]
noncomputable def z36 : List AV := [.int .i64 0, .str [], .int .i64 0]
noncomputable def z37 : List AV := [.int .i64 0, .str [], .int .i64 0]
noncomputable def z60 : List AV := [.nilp, .sl [] .nil]
noncomputable def z82 : List AV := [.bool false, .bool false, .bool false, .bool false, .bool false, .bool false, .bool false, .bool false, .bool false, .bool false, .bool false, .bool false, .bool false, .bool false, .bool false, .bool false, .bool false, .bool false, .bool false, .bool false, .bool false, .bool false, .bool false, .bool false, .bool false, .bool false, .bool false, .bool false, .bool false, .bool false, .bool false, .bool false, .bool false, .bool false, .bool false, .bool false, .bool false, .bool false, .bool false, .bool false, .bool false, .bool false, .bool false, .bool false, .bool false, .bool false, .bool false, .bool false, .bool false, .bool false, .bool false, .bool false, .bool false, .bool false, .bool false, .bool false, .bool false, .bool false, .bool false, .bool false, .bool false, .bool false, .bool false, .bool false, .bool false, .bool false, .bool false, .bool false, .bool false, .bool false, .bool false, .bool false, .bool false, .bool false, .bool false, .bool false, .bool false, .bool false, .bool false, .bool false, .bool false, .bool false, .bool false, .bool false, .bool false, .bool false, .bool false, .bool false, .bool false, .bool false, .bool false, .bool false, .bool false, .bool false, .bool false, .bool false, .bool false, .bool false, .bool false, .bool false, .bool false, .bool false, .bool false, .bool false, .bool false, .bool false, .bool false, .bool false, .bool false, .bool false, .bool false, .bool false, .bool false, .bool false, .bool false, .bool false, .bool false, .bool false, .bool false, .bool false, .bool false, .bool false, .bool false, .bool false, .bool false, .bool false, .bool false, .bool false, .bool false, .bool false, .bool false, .bool false, .bool false, .bool false, .bool false, .bool false, .bool false, .bool false, .bool false, .bool false, .bool false, .bool false, .bool false, .bool false, .bool false, .bool false, .bool false, .bool false, .bool false, .bool false, .bool false, .bool false, .bool false, .bool false, .bool false, .bool false, .bool false, .bool false, .bool false, .bool false, .bool false, .bool false, .bool false, .bool false, .bool false, .bool false, .bool false, .bool false, .bool false, .bool false, .bool false, .bool false, .bool false, .bool false, .bool false, .bool false, .bool false, .bool false, .bool false, .bool false, .bool false, .bool false, .bool false, .bool false, .bool false, .bool false, .bool false, .bool false, .bool false, .bool false, .bool false, .bool false, .bool false, .bool false, .bool false, .bool false, .bool false, .bool false, .bool false, .bool false, .bool false, .bool false, .bool false, .bool false, .bool false, .bool false, .bool false, .bool false, .bool false, .bool false, .bool false, .bool false, .bool false, .bool false, .bool false, .bool false, .bool false, .bool false, .bool false, .bool false, .bool false, .bool false, .bool false, .bool false, .bool false, .bool false, .bool false, .bool false, .bool false, .bool false, .bool false, .bool false, .bool false, .bool false, .bool false, .bool false, .bool false, .bool false, .bool false, .bool false, .bool false, .bool false, .bool false, .bool false, .bool false, .bool false, .bool false, .bool false, .bool false, .bool false, .bool false, .bool false, .bool false, .bool false, .bool false, .bool false]
noncomputable def z105 : List AV := [.int .u8 0, .int .u8 0]
noncomputable def z106 : List AV := [.int .u8 0, .int .u8 0, .int .u8 0, .int .u8 0, .int .u8 0, .int .u8 0, .int .u8 0, .int .u8 0, .int .u8 0, .int .u8 0, .int .u8 0, .int .u8 0, .int .u8 0, .int .u8 0, .int .u8 0, .int .u8 0, .int .u8 0, .int .u8 0, .int .u8 0, .int .u8 0, .int .u8 0, .int .u8 0, .int .u8 0, .int .u8 0, .int .u8 0, .int .u8 0, .int .u8 0, .int .u8 0, .int .u8 0, .int .u8 0, .int .u8 0, .int .u8 0]
section
variable {R : Type} [Mon R]
/- refectory/refectorylaw04.LexBlanks -/
noncomputable def r4_30 (C : CallF) (k : KT R) : KT R := fun fr H => opn 23 fr (fun s0 s1 s4 s5 s7 s8 s9 s10 s11 s12 s13 s14 s16 s17 s20 s29 s39 s48 s97 s116 s132 s136 s174 => 
(qRes (C 5 [] H) fun v175 H =>
k [s0, s1, v175, s5, s7, s8, s9, s10, s11, s12, s13, s14, s16, s17, s20, s29, s39, s48, s97, s116, s132, s136, s174] H : R))
noncomputable def r4_27 (k : KT R) : KT R := fun fr H => opn 23 fr (fun s0 s1 s4 s5 s7 s8 s9 s10 s11 s12 s13 s14 s16 s17 s20 s29 s39 s48 s97 s116 s132 s136 s174 => 
(qAdd X 3 s17 (.int .i64 1) fun v138 =>
k [s0, s1, s4, s5, s7, s8, s9, s10, s11, s12, s13, s14, s16, v138, s20, s29, s39, s48, s97, s116, s132, s136, s174] H : R))
noncomputable def r4_29 (k : KT R) : KT R := fun fr H => opn 23 fr (fun s0 s1 s4 s5 s7 s8 s9 s10 s11 s12 s13 s14 s16 s17 s20 s29 s39 s48 s97 s116 s132 s136 s174 => 
(k [s0, s1, (.bool false), s5, s7, s8, s9, s10, s11, s12, s13, s14, s16, s17, s20, s29, s39, s48, s97, s116, s132, s136, s174] H : R))
noncomputable def r4_28 (k : KT R) : KT R := fun fr H => opn 23 fr (fun s0 s1 s4 s5 s7 s8 s9 s10 s11 s12 s13 s14 s16 s17 s20 s29 s39 s48 s97 s116 s132 s136 s174 => 
(qIa 3 s14 s17 fun v141 =>
qFa 0 v141 fun v142 =>
qLd v142 H fun v143 =>
qIa 3 s5 s17 fun v146 =>
qFa 0 v146 fun v147 =>
qLd v147 H fun v148 =>
qNeq X 3 v143 v148 fun v149 =>
qG v149 false (fun k => k s14 H) H fun v151 H =>
qG v149 false (fun k => k s17 H) H fun v152 H =>
qG v149 false (fun k => qIa 3 v151 v152 fun v => k v H) H fun v153 H =>
qG v149 false (fun k => qFa 1 v153 fun v => k v H) H fun v154 H =>
qG v149 false (fun k => qLd v154 H fun v => k v H) H fun v155 H =>
qG v149 false (fun k => k s5 H) H fun v156 H =>
qG v149 false (fun k => k s17 H) H fun v157 H =>
qG v149 false (fun k => qIa 3 v156 v157 fun v => k v H) H fun v158 H =>
qG v149 false (fun k => qFa 1 v158 fun v => k v H) H fun v159 H =>
qG v149 false (fun k => qLd v159 H fun v => k v H) H fun v160 H =>
qG v149 false (fun k => qNeq X 9 v155 v160 fun v => k v H) H fun v161 H =>
qPick v149 (.bool true) v161 fun v162 =>
qG v162 false (fun k => k s14 H) H fun v164 H =>
qG v162 false (fun k => k s17 H) H fun v165 H =>
qG v162 false (fun k => qIa 3 v164 v165 fun v => k v H) H fun v166 H =>
qG v162 false (fun k => qFa 2 v166 fun v => k v H) H fun v167 H =>
qG v162 false (fun k => qLd v167 H fun v => k v H) H fun v168 H =>
qG v162 false (fun k => k s10 H) H fun v169 H =>
qG v162 false (fun k => k s17 H) H fun v170 H =>
qG v162 false (fun k => qIa 1 v169 v170 fun v => k v H) H fun v171 H =>
qG v162 false (fun k => qLd v171 H fun v => k v H) H fun v172 H =>
qG v162 false (fun k => qNeq X 3 v168 v172 fun v => k v H) H fun v173 H =>
qPick v162 (.bool true) v173 fun v174 =>
k [s0, s1, s4, s5, s7, s8, s9, s10, s11, s12, s13, s14, s16, s17, s20, s29, s39, s48, s97, s116, s132, s136, v174] H : R))
noncomputable def r4_26 (k : KT R) : KT R := fun fr H => opn 23 fr (fun s0 s1 s4 s5 s7 s8 s9 s10 s11 s12 s13 s14 s16 s17 s20 s29 s39 s48 s97 s116 s132 s136 s174 => 
(qLenL s14 fun v135 =>
qLss X 3 s17 v135 fun v136 =>
k [s0, s1, s4, s5, s7, s8, s9, s10, s11, s12, s13, s14, s16, s17, s20, s29, s39, s48, s97, s116, s132, v136, s174] H : R))
noncomputable def l4_5 (k1 : KT R) (kr : KT R) : KT R → KT R := fun k2 => (r4_26 (qCd (sel 21) (fun k5 => k5) (fun _ => k1) (qBl (fun k3 => (r4_28 (qCd (sel 22) (fun _ => (r4_29 kr)) (fun k4 => k4) k3))) (r4_27 k2))))
noncomputable def r4_25 (k : KT R) : KT R := fun fr H => opn 23 fr (fun s0 s1 s4 s5 s7 s8 s9 s10 s11 s12 s13 s14 s16 s17 s20 s29 s39 s48 s97 s116 s132 s136 s174 => 
(k [s0, s1, s4, s5, s7, s8, s9, s10, s11, s12, s13, s14, s16, (.int .i64 0), s20, s29, s39, s48, s97, s116, s132, s136, s174] H : R))
noncomputable def r4_24 (k : KT R) : KT R := fun fr H => opn 23 fr (fun s0 s1 s4 s5 s7 s8 s9 s10 s11 s12 s13 s14 s16 s17 s20 s29 s39 s48 s97 s116 s132 s136 s174 => 
(k [s0, s1, (.bool false), s5, s7, s8, s9, s10, s11, s12, s13, s14, s16, s17, s20, s29, s39, s48, s97, s116, s132, s136, s174] H : R))
noncomputable def r4_23 (k : KT R) : KT R := fun fr H => opn 23 fr (fun s0 s1 s4 s5 s7 s8 s9 s10 s11 s12 s13 s14 s16 s17 s20 s29 s39 s48 s97 s116 s132 s136 s174 => 
(qNeq X 24 s16 (.int .i64 0) fun v125 =>
qG v125 false (fun k => k s14 H) H fun v127 H =>
qG v125 false (fun k => qLenL v127 fun v => k v H) H fun v128 H =>
qG v125 false (fun k => k s5 H) H fun v129 H =>
qG v125 false (fun k => qLenL v129 fun v => k v H) H fun v130 H =>
qG v125 false (fun k => qNeq X 3 v128 v130 fun v => k v H) H fun v131 H =>
qPick v125 (.bool true) v131 fun v132 =>
k [s0, s1, s4, s5, s7, s8, s9, s10, s11, s12, s13, s14, s16, s17, s20, s29, s39, s48, s97, s116, v132, s136, s174] H : R))
noncomputable def r4_22 (C : CallF) (k : KT R) : KT R := fun fr H => opn 23 fr (fun s0 s1 s4 s5 s7 s8 s9 s10 s11 s12 s13 s14 s16 s17 s20 s29 s39 s48 s97 s116 s132 s136 s174 => 
(qRes (C 6 [s9] H) fun v120 H =>
qExt v120 0 fun v121 =>
qExt v120 1 fun v122 =>
qExt v120 2 fun v123 =>
k [s0, s1, s4, s5, s7, s8, s9, s10, s11, s12, s13, v121, v123, s17, s20, s29, s39, s48, s97, s116, s132, s136, s174] H : R))
noncomputable def r4_21 (C : CallF) (k : KT R) : KT R := fun fr H => opn 23 fr (fun s0 s1 s4 s5 s7 s8 s9 s10 s11 s12 s13 s14 s16 s17 s20 s29 s39 s48 s97 s116 s132 s136 s174 => 
(qRes (C 5 [] H) fun v117 H =>
k [s0, s1, v117, s5, s7, s8, s9, s10, s11, s12, s13, s14, s16, s17, s20, s29, s39, s48, s97, s116, s132, s136, s174] H : R))
noncomputable def r4_20 (k : KT R) : KT R := fun fr H => opn 23 fr (fun s0 s1 s4 s5 s7 s8 s9 s10 s11 s12 s13 s14 s16 s17 s20 s29 s39 s48 s97 s116 s132 s136 s174 => 
(qLenS s9 fun v115 =>
qGtr X 3 v115 (.int .i64 8000) fun v116 =>
k [s0, s1, s4, s5, s7, s8, s9, s10, s11, s12, s13, s14, s16, s17, s20, s29, s39, s48, s97, v116, s132, s136, s174] H : R))
noncomputable def r4_11 (k : KT R) : KT R := fun fr H => opn 23 fr (fun s0 s1 s4 s5 s7 s8 s9 s10 s11 s12 s13 s14 s16 s17 s20 s29 s39 s48 s97 s116 s132 s136 s174 => 
(qAdd X 3 s11 (.int .i64 1) fun v41 =>
k [s0, s1, s4, s5, s7, s8, s9, s10, v41, s12, s13, s14, s16, s17, s20, s29, s39, s48, s97, s116, s132, s136, s174] H : R))
noncomputable def r4_19 (k : KT R) : KT R := fun fr H => opn 23 fr (fun s0 s1 s4 s5 s7 s8 s9 s10 s11 s12 s13 s14 s16 s17 s20 s29 s39 s48 s97 s116 s132 s136 s174 => 
(qAdd X 9 s9 s13 fun v110 =>
qAdd X 9 v110 (.str [10]) fun v111 =>
qAdd X 9 v111 s8 fun v113 =>
k [s0, s1, s4, s5, s7, s8, v113, s10, s11, s12, s13, s14, s16, s17, s20, s29, s39, s48, s97, s116, s132, s136, s174] H : R))
noncomputable def r4_18 (k : KT R) : KT R := fun fr H => opn 23 fr (fun s0 s1 s4 s5 s7 s8 s9 s10 s11 s12 s13 s14 s16 s17 s20 s29 s39 s48 s97 s116 s132 s136 s174 => 
(qLenS s9 fun v105 =>
qRows z3 1 [(0, v105)] fun v106 =>
qApp 1 8 s10 v106 false none H fun v107 H =>
k [s0, s1, s4, s5, s7, s8, s9, v107, s11, s12, s13, s14, s16, s17, s20, s29, s39, s48, s97, s116, s132, s136, s174] H : R))
noncomputable def r4_17 (k : KT R) : KT R := fun fr H => opn 23 fr (fun s0 s1 s4 s5 s7 s8 s9 s10 s11 s12 s13 s14 s16 s17 s20 s29 s39 s48 s97 s116 s132 s136 s174 => 
(qLenS s13 fun v100 =>
qSub X 3 v100 (.int .i64 1) fun v101 =>
qSlc Tryz.t9.desc 0 s13 none (some v101) none fun v102 =>
k [s0, s1, s4, s5, s7, s8, s9, s10, s11, s12, v102, s14, s16, s17, s20, s29, s39, s48, s97, s116, s132, s136, s174] H : R))
noncomputable def r4_16 (k : KT R) : KT R := fun fr H => opn 23 fr (fun s0 s1 s4 s5 s7 s8 s9 s10 s11 s12 s13 s14 s16 s17 s20 s29 s39 s48 s97 s116 s132 s136 s174 => 
(qLenS s13 fun v64 =>
qGtr X 3 v64 (.int .i64 0) fun v65 =>
qG v65 true (fun k => k s5 H) H fun v67 H =>
qG v65 true (fun k => k s11 H) H fun v68 H =>
qG v65 true (fun k => qIa 3 v67 v68 fun v => k v H) H fun v69 H =>
qG v65 true (fun k => qFa 0 v69 fun v => k v H) H fun v70 H =>
qG v65 true (fun k => qLd v70 H fun v => k v H) H fun v71 H =>
qG v65 true (fun k => qNeq X 3 v71 (.int .i64 4) fun v => k v H) H fun v72 H =>
qPick v65 v72 (.bool false) fun v73 =>
qG v73 true (fun k => k s13 H) H fun v75 H =>
qG v73 true (fun k => k s13 H) H fun v76 H =>
qG v73 true (fun k => qLenS v76 fun v => k v H) H fun v77 H =>
qG v73 true (fun k => qSub X 3 v77 (.int .i64 1) fun v => k v H) H fun v78 H =>
qG v73 true (fun k => qIx v75 v78 fun v => k v H) H fun v79 H =>
qG v73 true (fun k => qEql X 5 v79 (.int .u8 32) fun v => k v H) H fun v80 H =>
qG v73 true (fun k => k v80 H) H fun v81 H =>
qG v81 false (fun k => k s13 H) H fun v82 H =>
qG v81 false (fun k => k s13 H) H fun v83 H =>
qG v81 false (fun k => qLenS v83 fun v => k v H) H fun v84 H =>
qG v81 false (fun k => qSub X 3 v84 (.int .i64 1) fun v => k v H) H fun v85 H =>
qG v81 false (fun k => qIx v82 v85 fun v => k v H) H fun v86 H =>
qG v81 false (fun k => qEql X 5 v86 (.int .u8 44) fun v => k v H) H fun v87 H =>
qG v73 true (fun k => qPick v81 (.bool true) v87 fun v => k v H) H fun v88 H =>
qG v73 true (fun k => k v88 H) H fun v89 H =>
qG v89 false (fun k => k s13 H) H fun v90 H =>
qG v89 false (fun k => k s13 H) H fun v91 H =>
qG v89 false (fun k => qLenS v91 fun v => k v H) H fun v92 H =>
qG v89 false (fun k => qSub X 3 v92 (.int .i64 1) fun v => k v H) H fun v93 H =>
qG v89 false (fun k => qIx v90 v93 fun v => k v H) H fun v94 H =>
qG v89 false (fun k => qEql X 5 v94 (.int .u8 10) fun v => k v H) H fun v95 H =>
qG v73 true (fun k => qPick v89 (.bool true) v95 fun v => k v H) H fun v96 H =>
qPick v73 v96 (.bool false) fun v97 =>
k [s0, s1, s4, s5, s7, s8, s9, s10, s11, s12, s13, s14, s16, s17, s20, s29, s39, s48, v97, s116, s132, s136, s174] H : R))
noncomputable def l4_14 (k11 : KT R) : KT R → KT R := fun k12 => (r4_16 (qCd (sel 18) (fun k14 => k14) (fun _ => k11) (qBl (fun k13 => (r4_17 k13)) k12)))
noncomputable def r4_15 (k : KT R) : KT R := fun fr H => opn 23 fr (fun s0 s1 s4 s5 s7 s8 s9 s10 s11 s12 s13 s14 s16 s17 s20 s29 s39 s48 s97 s116 s132 s136 s174 => 
(qIa 3 s5 s11 fun v58 =>
qFa 2 v58 fun v59 =>
qLd v59 H fun v60 =>
qSlc Tryz.t9.desc 0 s0 (some v60) (some s12) none fun v62 =>
k [s0, s1, s4, s5, s7, s8, s9, s10, s11, s12, v62, s14, s16, s17, s20, s29, s39, s48, s97, s116, s132, s136, s174] H : R))
noncomputable def r4_14 (k : KT R) : KT R := fun fr H => opn 23 fr (fun s0 s1 s4 s5 s7 s8 s9 s10 s11 s12 s13 s14 s16 s17 s20 s29 s39 s48 s97 s116 s132 s136 s174 => 
(qAdd X 3 s11 (.int .i64 1) fun v51 =>
qIa 3 s5 v51 fun v52 =>
qFa 2 v52 fun v53 =>
qLd v53 H fun v54 =>
k [s0, s1, s4, s5, s7, s8, s9, s10, s11, v54, s13, s14, s16, s17, s20, s29, s39, s48, s97, s116, s132, s136, s174] H : R))
noncomputable def r4_13 (k : KT R) : KT R := fun fr H => opn 23 fr (fun s0 s1 s4 s5 s7 s8 s9 s10 s11 s12 s13 s14 s16 s17 s20 s29 s39 s48 s97 s116 s132 s136 s174 => 
(qAdd X 3 s11 (.int .i64 1) fun v45 =>
qLenL s5 fun v47 =>
qLss X 3 v45 v47 fun v48 =>
k [s0, s1, s4, s5, s7, s8, s9, s10, s11, s12, s13, s14, s16, s17, s20, s29, s39, v48, s97, s116, s132, s136, s174] H : R))
noncomputable def r4_12 (k : KT R) : KT R := fun fr H => opn 23 fr (fun s0 s1 s4 s5 s7 s8 s9 s10 s11 s12 s13 s14 s16 s17 s20 s29 s39 s48 s97 s116 s132 s136 s174 => 
(qLenS s0 fun v43 =>
k [s0, s1, s4, s5, s7, s8, s9, s10, s11, v43, s13, s14, s16, s17, s20, s29, s39, s48, s97, s116, s132, s136, s174] H : R))
noncomputable def r4_10 (k : KT R) : KT R := fun fr H => opn 23 fr (fun s0 s1 s4 s5 s7 s8 s9 s10 s11 s12 s13 s14 s16 s17 s20 s29 s39 s48 s97 s116 s132 s136 s174 => 
(qLenL s5 fun v38 =>
qLss X 3 s11 v38 fun v39 =>
k [s0, s1, s4, s5, s7, s8, s9, s10, s11, s12, s13, s14, s16, s17, s20, s29, v39, s48, s97, s116, s132, s136, s174] H : R))
noncomputable def l4_16 (k8 : KT R) : KT R → KT R := fun k9 => (r4_10 (qCd (sel 16) (fun k16 => k16) (fun _ => k8) (qBl (fun k10 => (r4_12 (r4_13 (qCd (sel 17) (fun k15 => (r4_14 k15)) (fun k15 => k15) (r4_15 (qBl (fun k11 => (qLoop (l4_14 k11))) (r4_18 (r4_19 k10)))))))) (r4_11 k9))))
noncomputable def r4_9 (k : KT R) : KT R := fun fr H => opn 23 fr (fun s0 s1 s4 s5 s7 s8 s9 s10 s11 s12 s13 s14 s16 s17 s20 s29 s39 s48 s97 s116 s132 s136 s174 => 
(k [s0, s1, s4, s5, s7, s8, s9, s10, (.int .i64 0), s12, s13, s14, s16, s17, s20, s29, s39, s48, s97, s116, s132, s136, s174] H : R))
noncomputable def r4_8 (k : KT R) : KT R := fun fr H => opn 23 fr (fun s0 s1 s4 s5 s7 s8 s9 s10 s11 s12 s13 s14 s16 s17 s20 s29 s39 s48 s97 s116 s132 s136 s174 => 
(k [s0, s1, s4, s5, s7, s8, s9, (.sl [] .nil), s11, s12, s13, s14, s16, s17, s20, s29, s39, s48, s97, s116, s132, s136, s174] H : R))
noncomputable def r4_7 (k : KT R) : KT R := fun fr H => opn 23 fr (fun s0 s1 s4 s5 s7 s8 s9 s10 s11 s12 s13 s14 s16 s17 s20 s29 s39 s48 s97 s116 s132 s136 s174 => 
(k [s0, s1, s4, s5, s7, s8, s8, s10, s11, s12, s13, s14, s16, s17, s20, s29, s39, s48, s97, s116, s132, s136, s174] H : R))
noncomputable def r4_6 (C : CallF) (k : KT R) : KT R := fun fr H => opn 23 fr (fun s0 s1 s4 s5 s7 s8 s9 s10 s11 s12 s13 s14 s16 s17 s20 s29 s39 s48 s97 s116 s132 s136 s174 => 
(qBld z32 [(0, 1, (.str [32])), (1, 1, (.str [44])), (2, 1, (.str [10])), (3, 1, (.str [35,32,119,111,114,100,115,32,34,10])), (4, 1, (.str [13,10,9,44]))] fun v31 =>
qRes (C 9 [s1, (.int .i64 5)] H) fun v33 H =>
qO (indexOf X 32 v31 v33) fun v34 =>
k [s0, s1, s4, s5, s7, v34, s9, s10, s11, s12, s13, s14, s16, s17, s20, s29, s39, s48, s97, s116, s132, s136, s174] H : R))
noncomputable def r4_5 (C : CallF) (k : KT R) : KT R := fun fr H => opn 23 fr (fun s0 s1 s4 s5 s7 s8 s9 s10 s11 s12 s13 s14 s16 s17 s20 s29 s39 s48 s97 s116 s132 s136 s174 => 
(qRes (C 5 [] H) fun v30 H =>
k [s0, s1, v30, s5, s7, s8, s9, s10, s11, s12, s13, s14, s16, s17, s20, s29, s39, s48, s97, s116, s132, s136, s174] H : R))
noncomputable def r4_4 (k : KT R) : KT R := fun fr H => opn 23 fr (fun s0 s1 s4 s5 s7 s8 s9 s10 s11 s12 s13 s14 s16 s17 s20 s29 s39 s48 s97 s116 s132 s136 s174 => 
(qNeq X 24 s7 (.int .i64 0) fun v29 =>
k [s0, s1, s4, s5, s7, s8, s9, s10, s11, s12, s13, s14, s16, s17, s20, v29, s39, s48, s97, s116, s132, s136, s174] H : R))
noncomputable def r4_3 (C : CallF) (k : KT R) : KT R := fun fr H => opn 23 fr (fun s0 s1 s4 s5 s7 s8 s9 s10 s11 s12 s13 s14 s16 s17 s20 s29 s39 s48 s97 s116 s132 s136 s174 => 
(qRes (C 7 [s0] H) fun v24 H =>
qExt v24 0 fun v25 =>
qExt v24 1 fun v26 =>
qExt v24 2 fun v27 =>
k [s0, s1, s4, v25, v27, s8, s9, s10, s11, s12, s13, s14, s16, s17, s20, s29, s39, s48, s97, s116, s132, s136, s174] H : R))
noncomputable def r4_2 (C : CallF) (k : KT R) : KT R := fun fr H => opn 23 fr (fun s0 s1 s4 s5 s7 s8 s9 s10 s11 s12 s13 s14 s16 s17 s20 s29 s39 s48 s97 s116 s132 s136 s174 => 
(qRes (C 5 [] H) fun v21 H =>
k [s0, s1, v21, s5, s7, s8, s9, s10, s11, s12, s13, s14, s16, s17, s20, s29, s39, s48, s97, s116, s132, s136, s174] H : R))
noncomputable def r4_1 (k : KT R) : KT R := fun fr H => opn 23 fr (fun s0 s1 s4 s5 s7 s8 s9 s10 s11 s12 s13 s14 s16 s17 s20 s29 s39 s48 s97 s116 s132 s136 s174 => 
(qLenS s0 fun v19 =>
qGtr X 3 v19 (.int .i64 1000) fun v20 =>
k [s0, s1, s4, s5, s7, s8, s9, s10, s11, s12, s13, s14, s16, s17, v20, s29, s39, s48, s97, s116, s132, s136, s174] H : R))
noncomputable def r4_0 (k : KT R) : KT R := fun fr H => opn 23 fr (fun s0 s1 s4 s5 s7 s8 s9 s10 s11 s12 s13 s14 s16 s17 s20 s29 s39 s48 s97 s116 s132 s136 s174 => 
(k [s0, s1, (.bool false), s5, s7, s8, s9, s10, s11, s12, s13, s14, s16, s17, s20, s29, s39, s48, s97, s116, s132, s136, s174] H : R))
noncomputable def c4 (C : CallF) (l0 : List AV) (H : AH) (k : AV → AH → R) : R := opn 2 l0 (fun x0 x1 => (qFn (fun kr => (r4_0 (r4_1 (qCd (sel 14) (fun _ => (r4_2 C kr)) (fun k18 => k18) (r4_3 C (r4_4 (qCd (sel 15) (fun _ => (r4_5 C kr)) (fun k17 => k17) (r4_6 C (r4_7 (r4_8 (r4_9 (qBl (fun k8 => (qLoop (l4_16 k8))) (r4_20 (qCd (sel 19) (fun _ => (r4_21 C kr)) (fun k7 => k7) (r4_22 C (r4_23 (qCd (sel 20) (fun _ => (r4_24 kr)) (fun k6 => k6) (r4_25 (qBl (fun k1 => (qLoop (l4_5 k1 kr))) (r4_30 C kr))))))))))))))))))))
(fun fr H => k (sel 2 fr) H) [x0, x1, Aes.undef, Aes.undef, Aes.undef, Aes.undef, Aes.undef, Aes.undef, Aes.undef, Aes.undef, Aes.undef, Aes.undef, Aes.undef, Aes.undef, Aes.undef, Aes.undef, Aes.undef, Aes.undef, Aes.undef, Aes.undef, Aes.undef, Aes.undef, Aes.undef] H : R))
/- refectory/refectorylaw04.awake -/
noncomputable def r5_2 (k : KT R) : KT R := fun fr H => opn 4 fr (fun s0 s1 s2 s3 => 
(qEql X 24 s3 (.int .i64 0) fun v10 =>
qG v10 true (fun k => k s2 H) H fun v12 H =>
qG v10 true (fun k => qEql X 3 v12 (.int .i64 0) fun v => k v H) H fun v13 H =>
qPick v10 v13 (.bool false) fun v14 =>
qG v14 true (fun k => k s1 H) H fun v16 H =>
qG v14 true (fun k => qLenL v16 fun v => k v H) H fun v17 H =>
qG v14 true (fun k => qEql X 3 v17 (.int .i64 6) fun v => k v H) H fun v18 H =>
qPick v14 v18 (.bool false) fun v19 =>
qG v19 true (fun k => k s1 H) H fun v21 H =>
qG v19 true (fun k => qIa 3 v21 (.int .i64 0) fun v => k v H) H fun v22 H =>
qG v19 true (fun k => qFa 0 v22 fun v => k v H) H fun v23 H =>
qG v19 true (fun k => qLd v23 H fun v => k v H) H fun v24 H =>
qG v19 true (fun k => qEql X 3 v24 (.int .i64 1) fun v => k v H) H fun v25 H =>
qPick v19 v25 (.bool false) fun v26 =>
qG v26 true (fun k => k s1 H) H fun v28 H =>
qG v26 true (fun k => qIa 3 v28 (.int .i64 4) fun v => k v H) H fun v29 H =>
qG v26 true (fun k => qFa 0 v29 fun v => k v H) H fun v30 H =>
qG v26 true (fun k => qLd v30 H fun v => k v H) H fun v31 H =>
qG v26 true (fun k => qEql X 3 v31 (.int .i64 2) fun v => k v H) H fun v32 H =>
qPick v26 v32 (.bool false) fun v33 =>
qG v33 true (fun k => k s1 H) H fun v35 H =>
qG v33 true (fun k => qIa 3 v35 (.int .i64 4) fun v => k v H) H fun v36 H =>
qG v33 true (fun k => qFa 1 v36 fun v => k v H) H fun v37 H =>
qG v33 true (fun k => qLd v37 H fun v => k v H) H fun v38 H =>
qG v33 true (fun k => qEql X 9 v38 (.str [45,49]) fun v => k v H) H fun v39 H =>
qPick v33 v39 (.bool false) fun v40 =>
qG v40 true (fun k => k s1 H) H fun v42 H =>
qG v40 true (fun k => qIa 3 v42 (.int .i64 5) fun v => k v H) H fun v43 H =>
qG v40 true (fun k => qFa 0 v43 fun v => k v H) H fun v44 H =>
qG v40 true (fun k => qLd v44 H fun v => k v H) H fun v45 H =>
qG v40 true (fun k => qEql X 3 v45 (.int .i64 5) fun v => k v H) H fun v46 H =>
qPick v40 v46 (.bool false) fun v47 =>
k [v47, s1, s2, s3] H : R))
noncomputable def r5_1 (C : CallF) (k : KT R) : KT R := fun fr H => opn 4 fr (fun s0 s1 s2 s3 => 
(qRes (C 6 [(.str [97,40,98,58,45,49,41])] H) fun v5 H =>
qExt v5 0 fun v6 =>
qExt v5 1 fun v7 =>
qExt v5 2 fun v8 =>
k [s0, v6, v7, v8] H : R))
noncomputable def r5_0 (k : KT R) : KT R := fun fr H => opn 4 fr (fun s0 s1 s2 s3 => 
(k [(.bool false), s1, s2, s3] H : R))
noncomputable def c5 (C : CallF) (l0 : List AV) (H : AH) (k : AV → AH → R) : R := opn 0 l0 ((qFn (fun kr => (r5_0 (r5_1 C (r5_2 kr))))
(fun fr H => k (sel 0 fr) H) [Aes.undef, Aes.undef, Aes.undef, Aes.undef] H : R))
/- refectory/lex.All -/
noncomputable def r6_17 (k : KT R) : KT R := fun fr H => opn 14 fr (fun s0 s2 s3 s4 s5 s6 s7 s8 s9 s12 s16 s20 s28 s43 => 
(k [s0, s5, (.int .i64 0), (.int .i64 0), s5, s6, s7, s8, s9, s12, s16, s20, s28, s43] H : R))
noncomputable def r6_16 (k : KT R) : KT R := fun fr H => opn 14 fr (fun s0 s2 s3 s4 s5 s6 s7 s8 s9 s12 s16 s20 s28 s43 => 
(qAdd X 3 s6 s9 fun v53 =>
k [s0, s2, s3, s4, s5, v53, s7, s8, s9, s12, s16, s20, s28, s43] H : R))
noncomputable def r6_15 (k : KT R) : KT R := fun fr H => opn 14 fr (fun s0 s2 s3 s4 s5 s6 s7 s8 s9 s12 s16 s20 s28 s43 => 
(qLdA 3 s8 H fun v48 =>
qRows z37 1 [(0, v48)] fun v49 =>
qApp 3 32 s5 v49 false none H fun v50 H =>
k [s0, s2, s3, s4, v50, s6, s7, s8, s9, s12, s16, s20, s28, s43] H : R))
noncomputable def r6_14 (k : KT R) : KT R := fun fr H => opn 14 fr (fun s0 s2 s3 s4 s5 s6 s7 s8 s9 s12 s16 s20 s28 s43 => 
(qFa 2 s8 fun v46 =>
qSt 1 v46 s6 H fun _ H =>
k [s0, s2, s3, s4, s5, s6, s7, s8, s9, s12, s16, s20, s28, s43] H : R))
noncomputable def r6_13 (k : KT R) : KT R := fun fr H => opn 14 fr (fun s0 s2 s3 s4 s5 s6 s7 s8 s9 s12 s16 s20 s28 s43 => 
(k [s0, (.sl [] .nil), s6, (.int .i64 2), s5, s6, s7, s8, s9, s12, s16, s20, s28, s43] H : R))
noncomputable def r6_12 (k : KT R) : KT R := fun fr H => opn 14 fr (fun s0 s2 s3 s4 s5 s6 s7 s8 s9 s12 s16 s20 s28 s43 => 
(qEql X 3 s9 (.int .i64 0) fun v43 =>
k [s0, s2, s3, s4, s5, s6, s7, s8, s9, s12, s16, s20, s28, v43] H : R))
noncomputable def r6_11 (C : CallF) (k : KT R) : KT R := fun fr H => opn 14 fr (fun s0 s2 s3 s4 s5 s6 s7 s8 s9 s12 s16 s20 s28 s43 => 
(qRes (C 13 [s7] H) fun v39 H =>
qExt v39 0 fun v40 =>
qExt v39 1 fun v41 =>
qNew (.cells z37) .ptr H fun v8 H =>
qSt 3 v8 v40 H fun _ H =>
k [s0, s2, s3, s4, s5, s6, s7, v8, v41, s12, s16, s20, s28, s43] H : R))
noncomputable def r6_8 (k : KT R) : KT R := fun fr H => opn 14 fr (fun s0 s2 s3 s4 s5 s6 s7 s8 s9 s12 s16 s20 s28 s43 => 
(qAdd X 3 s6 (.int .i64 1) fun v27 =>
k [s0, s2, s3, s4, s5, v27, s7, s8, s9, s12, s16, s20, s28, s43] H : R))
noncomputable def r6_10 (C : CallF) (k : KT R) : KT R := fun fr H => opn 14 fr (fun s0 s2 s3 s4 s5 s6 s7 s8 s9 s12 s16 s20 s28 s43 => 
(qRes (C 11 [s7, (.fn (.func 12) [] [])] H) fun v35 H =>
qAdd X 3 s6 v35 fun v36 =>
k [s0, s2, s3, s4, s5, v36, s7, s8, s9, s12, s16, s20, s28, s43] H : R))
noncomputable def r6_9 (k : KT R) : KT R := fun fr H => opn 14 fr (fun s0 s2 s3 s4 s5 s6 s7 s8 s9 s12 s16 s20 s28 s43 => 
(qIx s0 s6 fun v31 =>
qEql X 5 v31 (.int .u8 35) fun v32 =>
k [s0, s2, s3, s4, s5, s6, s7, s8, s9, s12, s16, s20, v32, s43] H : R))
noncomputable def r6_7 (C : CallF) (k : KT R) : KT R := fun fr H => opn 14 fr (fun s0 s2 s3 s4 s5 s6 s7 s8 s9 s12 s16 s20 s28 s43 => 
(qIx s0 s6 fun v23 =>
qRes (C 10 [(.str [32,9,10,13,44]), v23] H) fun v24 H =>
qGeq X 3 v24 (.int .i64 0) fun v25 =>
k [s0, s2, s3, s4, s5, s6, s7, s8, s9, s12, s16, v25, s28, s43] H : R))
noncomputable def r6_6 (k : KT R) : KT R := fun fr H => opn 14 fr (fun s0 s2 s3 s4 s5 s6 s7 s8 s9 s12 s16 s20 s28 s43 => 
(qSlc Tryz.t9.desc 0 s0 (some s6) none none fun v19 =>
k [s0, s2, s3, s4, s5, s6, v19, s8, s9, s12, s16, s20, s28, s43] H : R))
noncomputable def r6_5 (k : KT R) : KT R := fun fr H => opn 14 fr (fun s0 s2 s3 s4 s5 s6 s7 s8 s9 s12 s16 s20 s28 s43 => 
(qLenS s0 fun v15 =>
qLss X 3 s6 v15 fun v16 =>
k [s0, s2, s3, s4, s5, s6, s7, s8, s9, s12, v16, s20, s28, s43] H : R))
noncomputable def l6_8 (C : CallF) (k1 : KT R) (kr : KT R) : KT R → KT R := fun k2 => (r6_5 (qCd (sel 10) (fun k8 => k8) (fun _ => k1) (qBl (fun k3 => (r6_6 (qBl (fun k5 => (r6_7 C (qCd (sel 11) (fun _ => (r6_8 k3)) (fun k6 => (r6_9 (qCd (sel 12) (fun _ => (r6_10 C k3)) (fun k7 => k7) k6))) k5))) (r6_11 C (r6_12 (qCd (sel 13) (fun _ => (r6_13 kr)) (fun k4 => k4) (r6_14 (r6_15 (r6_16 k3))))))))) k2)))
noncomputable def r6_4 (k : KT R) : KT R := fun fr H => opn 14 fr (fun s0 s2 s3 s4 s5 s6 s7 s8 s9 s12 s16 s20 s28 s43 => 
(k [s0, s2, s3, s4, s5, (.int .i64 0), s7, s8, s9, s12, s16, s20, s28, s43] H : R))
noncomputable def r6_3 (k : KT R) : KT R := fun fr H => opn 14 fr (fun s0 s2 s3 s4 s5 s6 s7 s8 s9 s12 s16 s20 s28 s43 => 
(k [s0, s2, s3, s4, (.sl [] .nil), s6, s7, s8, s9, s12, s16, s20, s28, s43] H : R))
noncomputable def r6_2 (k : KT R) : KT R := fun fr H => opn 14 fr (fun s0 s2 s3 s4 s5 s6 s7 s8 s9 s12 s16 s20 s28 s43 => 
(k [s0, (.sl [] .nil), (.int .i64 0), (.int .i64 3), s5, s6, s7, s8, s9, s12, s16, s20, s28, s43] H : R))
noncomputable def r6_1 (k : KT R) : KT R := fun fr H => opn 14 fr (fun s0 s2 s3 s4 s5 s6 s7 s8 s9 s12 s16 s20 s28 s43 => 
(qLenS s0 fun v11 =>
qGtr X 3 v11 (.int .i64 8000) fun v12 =>
k [s0, s2, s3, s4, s5, s6, s7, s8, s9, v12, s16, s20, s28, s43] H : R))
noncomputable def r6_0 (k : KT R) : KT R := fun fr H => opn 14 fr (fun s0 s2 s3 s4 s5 s6 s7 s8 s9 s12 s16 s20 s28 s43 => 
(k [s0, (.sl [] .nil), (.int .i64 0), (.int .i64 0), s5, s6, s7, s8, s9, s12, s16, s20, s28, s43] H : R))
noncomputable def c6 (C : CallF) (l0 : List AV) (H : AH) (k : AV → AH → R) : R := opn 1 l0 (fun x0 => (qFn (fun kr => (r6_0 (r6_1 (qCd (sel 9) (fun _ => (r6_2 kr)) (fun k9 => k9) (r6_3 (r6_4 (qBl (fun k1 => (qLoop (l6_8 C k1 kr))) (r6_17 kr))))))))
(fun fr H => k (.tup [(sel 1 fr), (sel 2 fr), (sel 3 fr)]) H) [x0, Aes.undef, Aes.undef, Aes.undef, Aes.undef, Aes.undef, Aes.undef, Aes.undef, Aes.undef, Aes.undef, Aes.undef, Aes.undef, Aes.undef, Aes.undef] H : R))
/- refectory/refectoryref04.All -/
noncomputable def r7_21 (k : KT R) : KT R := fun fr H => opn 16 fr (fun s0 s2 s3 s4 s5 s6 s7 s8 s9 s12 s16 s19 s28 s35 s43 s60 => 
(k [s0, s5, (.int .i64 0), (.int .i64 0), s5, s6, s7, s8, s9, s12, s16, s19, s28, s35, s43, s60] H : R))
noncomputable def r7_17 (k : KT R) : KT R := fun fr H => opn 16 fr (fun s0 s2 s3 s4 s5 s6 s7 s8 s9 s12 s16 s19 s28 s35 s43 s60 => 
(qAdd X 3 s6 (.int .i64 1) fun v42 =>
k [s0, s2, s3, s4, s5, v42, s7, s8, s9, s12, s16, s19, s28, s35, s43, s60] H : R))
noncomputable def r7_20 (k : KT R) : KT R := fun fr H => opn 16 fr (fun s0 s2 s3 s4 s5 s6 s7 s8 s9 s12 s16 s19 s28 s35 s43 s60 => 
(qAdd X 3 s6 (.int .i64 1) fun v62 =>
k [s0, s2, s3, s4, s5, v62, s7, s8, s9, s12, s16, s19, s28, s35, s43, s60] H : R))
noncomputable def r7_19 (k : KT R) : KT R := fun fr H => opn 16 fr (fun s0 s2 s3 s4 s5 s6 s7 s8 s9 s12 s16 s19 s28 s35 s43 s60 => 
(qLenS s0 fun v47 =>
qLss X 3 s6 v47 fun v48 =>
qG v48 true (fun k => k s0 H) H fun v50 H =>
qG v48 true (fun k => k s6 H) H fun v51 H =>
qG v48 true (fun k => qIx v50 v51 fun v => k v H) H fun v52 H =>
qG v48 true (fun k => qNeq X 5 v52 (.int .u8 10) fun v => k v H) H fun v53 H =>
qPick v48 v53 (.bool false) fun v54 =>
qG v54 true (fun k => k s0 H) H fun v56 H =>
qG v54 true (fun k => k s6 H) H fun v57 H =>
qG v54 true (fun k => qIx v56 v57 fun v => k v H) H fun v58 H =>
qG v54 true (fun k => qNeq X 5 v58 (.int .u8 13) fun v => k v H) H fun v59 H =>
qPick v54 v59 (.bool false) fun v60 =>
k [s0, s2, s3, s4, s5, s6, s7, s8, s9, s12, s16, s19, s28, s35, s43, v60] H : R))
noncomputable def l7_10 (k7 : KT R) : KT R → KT R := fun k8 => (r7_19 (qCd (sel 15) (fun k10 => k10) (fun _ => k7) (qBl (fun k9 => (r7_20 k9)) k8)))
noncomputable def r7_11 (k : KT R) : KT R := fun fr H => opn 16 fr (fun s0 s2 s3 s4 s5 s6 s7 s8 s9 s12 s16 s19 s28 s35 s43 s60 => 
(k [s0, s2, s3, s4, s5, s8, s7, s8, s9, s12, s16, s19, s28, s35, s43, s60] H : R))
noncomputable def r7_10 (k : KT R) : KT R := fun fr H => opn 16 fr (fun s0 s2 s3 s4 s5 s6 s7 s8 s9 s12 s16 s19 s28 s35 s43 s60 => 
(qLdA 3 s7 H fun v31 =>
qRows z36 1 [(0, v31)] fun v32 =>
qApp 3 32 s5 v32 false none H fun v33 H =>
k [s0, s2, s3, s4, v33, s6, s7, s8, s9, s12, s16, s19, s28, s35, s43, s60] H : R))
noncomputable def r7_9 (k : KT R) : KT R := fun fr H => opn 16 fr (fun s0 s2 s3 s4 s5 s6 s7 s8 s9 s12 s16 s19 s28 s35 s43 s60 => 
(k [s0, (.sl [] .nil), s6, (.int .i64 2), s5, s6, s7, s8, s9, s12, s16, s19, s28, s35, s43, s60] H : R))
noncomputable def r7_8 (k : KT R) : KT R := fun fr H => opn 16 fr (fun s0 s2 s3 s4 s5 s6 s7 s8 s9 s12 s16 s19 s28 s35 s43 s60 => 
(qNot s9 fun v28 =>
k [s0, s2, s3, s4, s5, s6, s7, s8, s9, s12, s16, s19, v28, s35, s43, s60] H : R))
noncomputable def r7_7 (C : CallF) (k : KT R) : KT R := fun fr H => opn 16 fr (fun s0 s2 s3 s4 s5 s6 s7 s8 s9 s12 s16 s19 s28 s35 s43 s60 => 
(qRes (C 14 [s0, s6] H) fun v23 H =>
qExt v23 0 fun v24 =>
qExt v23 1 fun v25 =>
qExt v23 2 fun v26 =>
qNew (.cells z36) .ptr H fun v7 H =>
qSt 3 v7 v24 H fun _ H =>
k [s0, s2, s3, s4, s5, s6, v7, v25, v26, s12, s16, s19, s28, s35, s43, s60] H : R))
noncomputable def r7_18 (k : KT R) : KT R := fun fr H => opn 16 fr (fun s0 s2 s3 s4 s5 s6 s7 s8 s9 s12 s16 s19 s28 s35 s43 s60 => 
(qEql X 5 s19 (.int .u8 35) fun v44 =>
k [s0, s2, s3, s4, s5, s6, s7, s8, s9, s12, s16, s19, s28, s35, v44, s60] H : R))
noncomputable def r7_16 (k : KT R) : KT R := fun fr H => opn 16 fr (fun s0 s2 s3 s4 s5 s6 s7 s8 s9 s12 s16 s19 s28 s35 s43 s60 => 
(qEql X 5 s19 (.int .u8 44) fun v40 =>
k [s0, s2, s3, s4, s5, s6, s7, s8, s9, s12, s16, s19, s28, v40, s43, s60] H : R))
noncomputable def r7_15 (k : KT R) : KT R := fun fr H => opn 16 fr (fun s0 s2 s3 s4 s5 s6 s7 s8 s9 s12 s16 s19 s28 s35 s43 s60 => 
(qEql X 5 s19 (.int .u8 13) fun v39 =>
k [s0, s2, s3, s4, s5, s6, s7, s8, s9, s12, s16, s19, s28, v39, s43, s60] H : R))
noncomputable def r7_14 (k : KT R) : KT R := fun fr H => opn 16 fr (fun s0 s2 s3 s4 s5 s6 s7 s8 s9 s12 s16 s19 s28 s35 s43 s60 => 
(qEql X 5 s19 (.int .u8 10) fun v38 =>
k [s0, s2, s3, s4, s5, s6, s7, s8, s9, s12, s16, s19, s28, v38, s43, s60] H : R))
noncomputable def r7_13 (k : KT R) : KT R := fun fr H => opn 16 fr (fun s0 s2 s3 s4 s5 s6 s7 s8 s9 s12 s16 s19 s28 s35 s43 s60 => 
(qEql X 5 s19 (.int .u8 9) fun v37 =>
k [s0, s2, s3, s4, s5, s6, s7, s8, s9, s12, s16, s19, s28, v37, s43, s60] H : R))
noncomputable def r7_12 (k : KT R) : KT R := fun fr H => opn 16 fr (fun s0 s2 s3 s4 s5 s6 s7 s8 s9 s12 s16 s19 s28 s35 s43 s60 => 
(qEql X 5 s19 (.int .u8 32) fun v36 =>
k [s0, s2, s3, s4, s5, s6, s7, s8, s9, s12, s16, s19, s28, v36, s43, s60] H : R))
noncomputable def r7_6 (k : KT R) : KT R := fun fr H => opn 16 fr (fun s0 s2 s3 s4 s5 s6 s7 s8 s9 s12 s16 s19 s28 s35 s43 s60 => 
(qIx s0 s6 fun v19 =>
k [s0, s2, s3, s4, s5, s6, s7, s8, s9, s12, s16, v19, s28, s35, s43, s60] H : R))
noncomputable def r7_5 (k : KT R) : KT R := fun fr H => opn 16 fr (fun s0 s2 s3 s4 s5 s6 s7 s8 s9 s12 s16 s19 s28 s35 s43 s60 => 
(qLenS s0 fun v15 =>
qLss X 3 s6 v15 fun v16 =>
k [s0, s2, s3, s4, s5, s6, s7, s8, s9, s12, v16, s19, s28, s35, s43, s60] H : R))
noncomputable def l7_16 (C : CallF) (k1 : KT R) (kr : KT R) : KT R → KT R := fun k2 => (r7_5 (qCd (sel 10) (fun k16 => k16) (fun _ => k1) (qBl (fun k3 => (r7_6 (qBl (fun k4 => (r7_12 (qCd (sel 13) (fun k12 => k12) (fun k12 => (r7_13 (qCd (sel 13) (fun k13 => k13) (fun k13 => (r7_14 (qCd (sel 13) (fun k14 => k14) (fun k14 => (r7_15 (qCd (sel 13) (fun k15 => k15) (fun k15 => (r7_16 k15)) k14))) k13))) k12))) (qCd (sel 13) (fun k5 => (r7_17 k5)) (fun k5 => (r7_18 (qCd (sel 14) (fun k6 => (qBl (fun k7 => (qLoop (l7_10 k7))) k6)) (fun k6 => (r7_7 C (r7_8 (qCd (sel 12) (fun _ => (r7_9 kr)) (fun k11 => k11) (r7_10 (r7_11 k6)))))) k5))) k4)))) k3))) k2)))
noncomputable def r7_4 (k : KT R) : KT R := fun fr H => opn 16 fr (fun s0 s2 s3 s4 s5 s6 s7 s8 s9 s12 s16 s19 s28 s35 s43 s60 => 
(k [s0, s2, s3, s4, s5, (.int .i64 0), s7, s8, s9, s12, s16, s19, s28, s35, s43, s60] H : R))
noncomputable def r7_3 (k : KT R) : KT R := fun fr H => opn 16 fr (fun s0 s2 s3 s4 s5 s6 s7 s8 s9 s12 s16 s19 s28 s35 s43 s60 => 
(k [s0, s2, s3, s4, (.sl [] .nil), s6, s7, s8, s9, s12, s16, s19, s28, s35, s43, s60] H : R))
noncomputable def r7_2 (k : KT R) : KT R := fun fr H => opn 16 fr (fun s0 s2 s3 s4 s5 s6 s7 s8 s9 s12 s16 s19 s28 s35 s43 s60 => 
(k [s0, (.sl [] .nil), (.int .i64 0), (.int .i64 3), s5, s6, s7, s8, s9, s12, s16, s19, s28, s35, s43, s60] H : R))
noncomputable def r7_1 (k : KT R) : KT R := fun fr H => opn 16 fr (fun s0 s2 s3 s4 s5 s6 s7 s8 s9 s12 s16 s19 s28 s35 s43 s60 => 
(qLenS s0 fun v11 =>
qGtr X 3 v11 (.int .i64 8000) fun v12 =>
k [s0, s2, s3, s4, s5, s6, s7, s8, s9, v12, s16, s19, s28, s35, s43, s60] H : R))
noncomputable def r7_0 (k : KT R) : KT R := fun fr H => opn 16 fr (fun s0 s2 s3 s4 s5 s6 s7 s8 s9 s12 s16 s19 s28 s35 s43 s60 => 
(k [s0, (.sl [] .nil), (.int .i64 0), (.int .i64 0), s5, s6, s7, s8, s9, s12, s16, s19, s28, s35, s43, s60] H : R))
noncomputable def c7 (C : CallF) (l0 : List AV) (H : AH) (k : AV → AH → R) : R := opn 1 l0 (fun x0 => (qFn (fun kr => (r7_0 (r7_1 (qCd (sel 9) (fun _ => (r7_2 kr)) (fun k17 => k17) (r7_3 (r7_4 (qBl (fun k1 => (qLoop (l7_16 C k1 kr))) (r7_21 kr))))))))
(fun fr H => k (.tup [(sel 1 fr), (sel 2 fr), (sel 3 fr)]) H) [x0, Aes.undef, Aes.undef, Aes.undef, Aes.undef, Aes.undef, Aes.undef, Aes.undef, Aes.undef, Aes.undef, Aes.undef, Aes.undef, Aes.undef, Aes.undef, Aes.undef, Aes.undef] H : R))
/- refectory/refectorylaw00.Place -/
noncomputable def r9_4 (k : KT R) : KT R := fun fr H => opn 5 fr (fun s0 s1 s4 s5 s10 => 
(k [s0, s1, s5, s5, s10] H : R))
noncomputable def r9_3 (k : KT R) : KT R := fun fr H => opn 5 fr (fun s0 s1 s4 s5 s10 => 
(qAdd X 3 s5 s1 fun v13 =>
k [s0, s1, s4, v13, s10] H : R))
noncomputable def r9_2 (k : KT R) : KT R := fun fr H => opn 5 fr (fun s0 s1 s4 s5 s10 => 
(qLss X 3 s5 (.int .i64 0) fun v10 =>
k [s0, s1, s4, s5, v10] H : R))
noncomputable def r9_1 (k : KT R) : KT R := fun fr H => opn 5 fr (fun s0 s1 s4 s5 s10 => 
(qRem X 3 s0 s1 fun v8 =>
k [s0, s1, s4, v8, s10] H : R))
noncomputable def r9_0 (k : KT R) : KT R := fun fr H => opn 5 fr (fun s0 s1 s4 s5 s10 => 
(k [s0, s1, (.int .i64 0), s5, s10] H : R))
noncomputable def c9 (C : CallF) (l0 : List AV) (H : AH) (k : AV → AH → R) : R := opn 2 l0 (fun x0 x1 => (qFn (fun kr => (r9_0 (r9_1 (r9_2 (qCd (sel 4) (fun k1 => (r9_3 k1)) (fun k1 => k1) (r9_4 kr))))))
(fun fr H => k (sel 2 fr) H) [x0, x1, Aes.undef, Aes.undef, Aes.undef] H : R))
/- refectory/lex.span -/
noncomputable def r11_4 (k : KT R) : KT R := fun fr H => opn 5 fr (fun s0 s1 s4 s5 s16 => 
(k [s0, s1, s5, s5, s16] H : R))
noncomputable def r11_3 (k : KT R) : KT R := fun fr H => opn 5 fr (fun s0 s1 s4 s5 s16 => 
(qAdd X 3 s5 (.int .i64 1) fun v18 =>
k [s0, s1, s4, v18, s16] H : R))
noncomputable def r11_2 (C : CallF) (k : KT R) : KT R := fun fr H => opn 5 fr (fun s0 s1 s4 s5 s16 => 
(qLenS s0 fun v8 =>
qLss X 3 s5 v8 fun v9 =>
qG v9 true (fun k => k s1 H) H fun v11 H =>
qG v9 true (fun k => k s0 H) H fun v12 H =>
qG v9 true (fun k => k s5 H) H fun v13 H =>
qG v9 true (fun k => qIx v12 v13 fun v => k v H) H fun v14 H =>
qG v9 true (fun k => qCallV C v11 [v14] H k) H fun v15 H =>
qPick v9 v15 (.bool false) fun v16 =>
k [s0, s1, s4, s5, v16] H : R))
noncomputable def l11_4 (C : CallF) (k1 : KT R) : KT R → KT R := fun k2 => (r11_2 C (qCd (sel 4) (fun k4 => k4) (fun _ => k1) (qBl (fun k3 => (r11_3 k3)) k2)))
noncomputable def r11_1 (k : KT R) : KT R := fun fr H => opn 5 fr (fun s0 s1 s4 s5 s16 => 
(k [s0, s1, s4, (.int .i64 0), s16] H : R))
noncomputable def r11_0 (k : KT R) : KT R := fun fr H => opn 5 fr (fun s0 s1 s4 s5 s16 => 
(k [s0, s1, (.int .i64 0), s5, s16] H : R))
noncomputable def c11 (C : CallF) (l0 : List AV) (H : AH) (k : AV → AH → R) : R := opn 2 l0 (fun x0 x1 => (qFn (fun kr => (r11_0 (r11_1 (qBl (fun k1 => (qLoop (l11_4 C k1))) (r11_4 kr)))))
(fun fr H => k (sel 2 fr) H) [x0, x1, Aes.undef, Aes.undef, Aes.undef] H : R))
/- refectory/lex.All$1 -/
noncomputable def r12_1 (k : KT R) : KT R := fun fr H => opn 2 fr (fun s0 s2 => 
(qNeq X 5 s0 (.int .u8 10) fun v4 =>
qG v4 true (fun k => k s0 H) H fun v6 H =>
qG v4 true (fun k => qNeq X 5 v6 (.int .u8 13) fun v => k v H) H fun v7 H =>
qPick v4 v7 (.bool false) fun v8 =>
k [s0, v8] H : R))
noncomputable def r12_0 (k : KT R) : KT R := fun fr H => opn 2 fr (fun s0 s2 => 
(k [s0, (.bool false)] H : R))
noncomputable def c12 (C : CallF) (l0 : List AV) (H : AH) (k : AV → AH → R) : R := opn 1 l0 (fun x0 => (qFn (fun kr => (r12_0 (r12_1 kr)))
(fun fr H => k (sel 1 fr) H) [x0, Aes.undef] H : R))
/- refectory/lex.token -/
noncomputable def r13_25 (k : KT R) : KT R := fun fr H => opn 21 fr (fun s0 s2 s3 s4 s5 s6 s7 s8 s9 s10 s11 s12 s15 s31 s35 s47 s53 s60 s71 s82 s86 => 
(qBld z37 [] fun v93 =>
qSt 3 s2 v93 H fun _ H =>
k [s0, s2, (.int .i64 0), s4, s5, s6, s7, s8, s9, s10, s11, s12, s15, s31, s35, s47, s53, s60, s71, s82, s86] H : R))
noncomputable def r13_9 (k : KT R) : KT R := fun fr H => opn 21 fr (fun s0 s2 s3 s4 s5 s6 s7 s8 s9 s10 s11 s12 s15 s31 s35 s47 s53 s60 s71 s82 s86 => 
(qSlc Tryz.t9.desc 0 s0 none (some s5) none fun v44 =>
qBld z37 [(0, 1, (.int .i64 3)), (1, 1, v44)] fun v45 =>
qSt 3 s2 v45 H fun _ H =>
k [s0, s2, s5, s4, s5, s6, s7, s8, s9, s10, s11, s12, s15, s31, s35, s47, s53, s60, s71, s82, s86] H : R))
noncomputable def r13_6 (k : KT R) : KT R := fun fr H => opn 21 fr (fun s0 s2 s3 s4 s5 s6 s7 s8 s9 s10 s11 s12 s15 s31 s35 s47 s53 s60 s71 s82 s86 => 
(qBld z37 [] fun v34 =>
qSt 3 s2 v34 H fun _ H =>
k [s0, s2, (.int .i64 0), s4, s5, s6, s7, s8, s9, s10, s11, s12, s15, s31, s35, s47, s53, s60, s71, s82, s86] H : R))
noncomputable def r13_8 (k : KT R) : KT R := fun fr H => opn 21 fr (fun s0 s2 s3 s4 s5 s6 s7 s8 s9 s10 s11 s12 s15 s31 s35 s47 s53 s60 s71 s82 s86 => 
(qSlc Tryz.t9.desc 0 s0 none (some s5) none fun v39 =>
qBld z37 [(0, 1, (.int .i64 2)), (1, 1, v39)] fun v40 =>
qSt 3 s2 v40 H fun _ H =>
k [s0, s2, s5, s4, s5, s6, s7, s8, s9, s10, s11, s12, s15, s31, s35, s47, s53, s60, s71, s82, s86] H : R))
noncomputable def r13_7 (k : KT R) : KT R := fun fr H => opn 21 fr (fun s0 s2 s3 s4 s5 s6 s7 s8 s9 s10 s11 s12 s15 s31 s35 s47 s53 s60 s71 s82 s86 => 
(k [s0, s2, s3, s4, s5, s6, s7, s8, s9, s10, s11, s12, s15, s31, s6, s47, s53, s60, s71, s82, s86] H : R))
noncomputable def r13_5 (k : KT R) : KT R := fun fr H => opn 21 fr (fun s0 s2 s3 s4 s5 s6 s7 s8 s9 s10 s11 s12 s15 s31 s35 s47 s53 s60 s71 s82 s86 => 
(qNot s7 fun v33 =>
k [s0, s2, s3, s4, s5, s6, s7, s8, s9, s10, s11, s12, s15, v33, s35, s47, s53, s60, s71, s82, s86] H : R))
noncomputable def r13_4 (C : CallF) (k : KT R) : KT R := fun fr H => opn 21 fr (fun s0 s2 s3 s4 s5 s6 s7 s8 s9 s10 s11 s12 s15 s31 s35 s47 s53 s60 s71 s82 s86 => 
(qSlc Tryz.t9.desc 0 s0 none (some s5) none fun v27 =>
qRes (C 19 [v27] H) fun v28 H =>
qExt v28 0 fun v29 =>
qExt v28 1 fun v30 =>
k [s0, s2, s3, s4, s5, v29, v30, s8, s9, s10, s11, s12, s15, s31, s35, s47, s53, s60, s71, s82, s86] H : R))
noncomputable def r13_3 (C : CallF) (k : KT R) : KT R := fun fr H => opn 21 fr (fun s0 s2 s3 s4 s5 s6 s7 s8 s9 s10 s11 s12 s15 s31 s35 s47 s53 s60 s71 s82 s86 => 
(qRes (C 11 [s0, (.fn (.func 17) [] [])] H) fun v23 H =>
k [s0, s2, s3, s4, v23, s6, s7, s8, s9, s10, s11, s12, s15, s31, s35, s47, s53, s60, s71, s82, s86] H : R))
noncomputable def r13_14 (k : KT R) : KT R := fun fr H => opn 21 fr (fun s0 s2 s3 s4 s5 s6 s7 s8 s9 s10 s11 s12 s15 s31 s35 s47 s53 s60 s71 s82 s86 => 
(qSlc Tryz.t9.desc 0 s0 none (some s8) none fun v57 =>
qBld z37 [(0, 1, (.int .i64 1)), (1, 1, v57)] fun v58 =>
qSt 3 s2 v58 H fun _ H =>
k [s0, s2, s8, s4, s5, s6, s7, s8, s9, s10, s11, s12, s15, s31, s35, s47, s53, s60, s71, s82, s86] H : R))
noncomputable def r13_13 (k : KT R) : KT R := fun fr H => opn 21 fr (fun s0 s2 s3 s4 s5 s6 s7 s8 s9 s10 s11 s12 s15 s31 s35 s47 s53 s60 s71 s82 s86 => 
(qBld z37 [] fun v54 =>
qSt 3 s2 v54 H fun _ H =>
k [s0, s2, (.int .i64 0), s4, s5, s6, s7, s8, s9, s10, s11, s12, s15, s31, s35, s47, s53, s60, s71, s82, s86] H : R))
noncomputable def r13_12 (k : KT R) : KT R := fun fr H => opn 21 fr (fun s0 s2 s3 s4 s5 s6 s7 s8 s9 s10 s11 s12 s15 s31 s35 s47 s53 s60 s71 s82 s86 => 
(qGtr X 3 s8 (.int .i64 40) fun v53 =>
k [s0, s2, s3, s4, s5, s6, s7, s8, s9, s10, s11, s12, s15, s31, s35, s47, v53, s60, s71, s82, s86] H : R))
noncomputable def r13_11 (C : CallF) (k : KT R) : KT R := fun fr H => opn 21 fr (fun s0 s2 s3 s4 s5 s6 s7 s8 s9 s10 s11 s12 s15 s31 s35 s47 s53 s60 s71 s82 s86 => 
(qRes (C 11 [s0, (.fn (.func 18) [] [])] H) fun v51 H =>
k [s0, s2, s3, s4, s5, s6, s7, v51, s9, s10, s11, s12, s15, s31, s35, s47, s53, s60, s71, s82, s86] H : R))
noncomputable def r13_17 (k : KT R) : KT R := fun fr H => opn 21 fr (fun s0 s2 s3 s4 s5 s6 s7 s8 s9 s10 s11 s12 s15 s31 s35 s47 s53 s60 s71 s82 s86 => 
(qBld z37 [(0, 1, (.int .i64 4)), (1, 1, s9)] fun v69 =>
qSt 3 s2 v69 H fun _ H =>
k [s0, s2, s10, s4, s5, s6, s7, s8, s9, s10, s11, s12, s15, s31, s35, s47, s53, s60, s71, s82, s86] H : R))
noncomputable def r13_16 (C : CallF) (k : KT R) : KT R := fun fr H => opn 21 fr (fun s0 s2 s3 s4 s5 s6 s7 s8 s9 s10 s11 s12 s15 s31 s35 s47 s53 s60 s71 s82 s86 => 
(qRes (C 21 [s0] H) fun v65 H =>
qExt v65 0 fun v66 =>
qExt v65 1 fun v67 =>
k [s0, s2, s3, s4, s5, s6, s7, s8, v66, v67, s11, s12, s15, s31, s35, s47, s53, s60, s71, s82, s86] H : R))
noncomputable def r13_20 (k : KT R) : KT R := fun fr H => opn 21 fr (fun s0 s2 s3 s4 s5 s6 s7 s8 s9 s10 s11 s12 s15 s31 s35 s47 s53 s60 s71 s82 s86 => 
(qBld z37 [(0, 1, (.int .i64 4)), (1, 1, s11)] fun v80 =>
qSt 3 s2 v80 H fun _ H =>
k [s0, s2, s12, s4, s5, s6, s7, s8, s9, s10, s11, s12, s15, s31, s35, s47, s53, s60, s71, s82, s86] H : R))
noncomputable def r13_19 (C : CallF) (k : KT R) : KT R := fun fr H => opn 21 fr (fun s0 s2 s3 s4 s5 s6 s7 s8 s9 s10 s11 s12 s15 s31 s35 s47 s53 s60 s71 s82 s86 => 
(qRes (C 22 [s0] H) fun v76 H =>
qExt v76 0 fun v77 =>
qExt v76 1 fun v78 =>
k [s0, s2, s3, s4, s5, s6, s7, s8, s9, s10, v77, v78, s15, s31, s35, s47, s53, s60, s71, s82, s86] H : R))
noncomputable def r13_22 (k : KT R) : KT R := fun fr H => opn 21 fr (fun s0 s2 s3 s4 s5 s6 s7 s8 s9 s10 s11 s12 s15 s31 s35 s47 s53 s60 s71 s82 s86 => 
(qBld z37 [(0, 1, (.int .i64 5)), (1, 1, (.str [46,46,46]))] fun v85 =>
qSt 3 s2 v85 H fun _ H =>
k [s0, s2, (.int .i64 3), s4, s5, s6, s7, s8, s9, s10, s11, s12, s15, s31, s35, s47, s53, s60, s71, s82, s86] H : R))
noncomputable def r13_24 (k : KT R) : KT R := fun fr H => opn 21 fr (fun s0 s2 s3 s4 s5 s6 s7 s8 s9 s10 s11 s12 s15 s31 s35 s47 s53 s60 s71 s82 s86 => 
(qSlc Tryz.t9.desc 0 s0 none (some (.int .i64 1)) none fun v91 =>
qBld z37 [(0, 1, (.int .i64 5)), (1, 1, v91)] fun v92 =>
qSt 3 s2 v92 H fun _ H =>
k [s0, s2, (.int .i64 1), s4, s5, s6, s7, s8, s9, s10, s11, s12, s15, s31, s35, s47, s53, s60, s71, s82, s86] H : R))
noncomputable def r13_23 (C : CallF) (k : KT R) : KT R := fun fr H => opn 21 fr (fun s0 s2 s3 s4 s5 s6 s7 s8 s9 s10 s11 s12 s15 s31 s35 s47 s53 s60 s71 s82 s86 => 
(qRes (C 10 [(.str [33,36,38,40,41,58,61,64,91,93,123,124,125]), s4] H) fun v88 H =>
qGeq X 3 v88 (.int .i64 0) fun v89 =>
k [s0, s2, s3, s4, s5, s6, s7, s8, s9, s10, s11, s12, s15, s31, s35, s47, s53, s60, s71, s82, v89] H : R))
noncomputable def r13_21 (C : CallF) (k : KT R) : KT R := fun fr H => opn 21 fr (fun s0 s2 s3 s4 s5 s6 s7 s8 s9 s10 s11 s12 s15 s31 s35 s47 s53 s60 s71 s82 s86 => 
(qRes (C 20 [s0, (.str [46,46,46])] H) fun v84 H =>
k [s0, s2, s3, s4, s5, s6, s7, s8, s9, s10, s11, s12, s15, s31, s35, s47, s53, s60, s71, v84, s86] H : R))
noncomputable def r13_18 (k : KT R) : KT R := fun fr H => opn 21 fr (fun s0 s2 s3 s4 s5 s6 s7 s8 s9 s10 s11 s12 s15 s31 s35 s47 s53 s60 s71 s82 s86 => 
(qEql X 5 s4 (.int .u8 34) fun v73 =>
k [s0, s2, s3, s4, s5, s6, s7, s8, s9, s10, s11, s12, s15, s31, s35, s47, s53, s60, v73, s82, s86] H : R))
noncomputable def r13_15 (C : CallF) (k : KT R) : KT R := fun fr H => opn 21 fr (fun s0 s2 s3 s4 s5 s6 s7 s8 s9 s10 s11 s12 s15 s31 s35 s47 s53 s60 s71 s82 s86 => 
(qRes (C 20 [s0, (.str [34,34,34])] H) fun v62 H =>
k [s0, s2, s3, s4, s5, s6, s7, s8, s9, s10, s11, s12, s15, s31, s35, s47, s53, v62, s71, s82, s86] H : R))
noncomputable def r13_10 (C : CallF) (k : KT R) : KT R := fun fr H => opn 21 fr (fun s0 s2 s3 s4 s5 s6 s7 s8 s9 s10 s11 s12 s15 s31 s35 s47 s53 s60 s71 s82 s86 => 
(qRes (C 18 [s4] H) fun v49 H =>
k [s0, s2, s3, s4, s5, s6, s7, s8, s9, s10, s11, s12, s15, s31, s35, v49, s53, s60, s71, s82, s86] H : R))
noncomputable def r13_2 (C : CallF) (k : KT R) : KT R := fun fr H => opn 21 fr (fun s0 s2 s3 s4 s5 s6 s7 s8 s9 s10 s11 s12 s15 s31 s35 s47 s53 s60 s71 s82 s86 => 
(qRes (C 16 [s4] H) fun v17 H =>
qG v17 false (fun k => k s4 H) H fun v19 H =>
qG v17 false (fun k => qEql X 5 v19 (.int .u8 45) fun v => k v H) H fun v20 H =>
qPick v17 (.bool true) v20 fun v21 =>
k [s0, s2, s3, s4, s5, s6, s7, s8, s9, s10, s11, s12, v21, s31, s35, s47, s53, s60, s71, s82, s86] H : R))
noncomputable def r13_1 (k : KT R) : KT R := fun fr H => opn 21 fr (fun s0 s2 s3 s4 s5 s6 s7 s8 s9 s10 s11 s12 s15 s31 s35 s47 s53 s60 s71 s82 s86 => 
(qIx s0 (.int .i64 0) fun v14 =>
k [s0, s2, s3, v14, s5, s6, s7, s8, s9, s10, s11, s12, s15, s31, s35, s47, s53, s60, s71, s82, s86] H : R))
noncomputable def r13_0 (k : KT R) : KT R := fun fr H => opn 21 fr (fun s0 s2 s3 s4 s5 s6 s7 s8 s9 s10 s11 s12 s15 s31 s35 s47 s53 s60 s71 s82 s86 => 
(qNew (.cells z37) .ptr H fun v2 H =>
k [s0, v2, (.int .i64 0), s4, s5, s6, s7, s8, s9, s10, s11, s12, s15, s31, s35, s47, s53, s60, s71, s82, s86] H : R))
noncomputable def c13 (C : CallF) (l0 : List AV) (H : AH) (k : AV → AH → R) : R := opn 1 l0 (fun x0 => (qFn (fun kr => (r13_0 (r13_1 (qBl (fun k1 => (r13_2 C (qCd (sel 12) (fun _ => (r13_3 C (r13_4 C (qBl (fun k3 => (r13_5 (qCd (sel 13) (fun _ => (r13_6 kr)) (fun k4 => (r13_7 (qCd (sel 14) (fun _ => (r13_8 kr)) (fun k5 => k5) k4))) k3))) (r13_9 kr))))) (fun k2 => (r13_10 C (qCd (sel 15) (fun _ => (r13_11 C (r13_12 (qCd (sel 16) (fun _ => (r13_13 kr)) (fun k7 => k7) (r13_14 kr))))) (fun k6 => (r13_15 C (qCd (sel 17) (fun _ => (r13_16 C (r13_17 kr))) (fun k8 => (r13_18 (qCd (sel 18) (fun _ => (r13_19 C (r13_20 kr))) (fun k9 => (r13_21 C (qCd (sel 19) (fun _ => (r13_22 kr)) (fun k10 => (r13_23 C (qCd (sel 20) (fun _ => (r13_24 kr)) (fun k11 => k11) k10))) k9))) k8))) k6))) k2))) k1))) (r13_25 kr)))))
(fun fr H => qPtr (sel 1 fr) (qLdA 3 (sel 1 fr) H fun w0 => k (.tup [w0, (sel 2 fr)]) H)) [x0, Aes.undef, Aes.undef, Aes.undef, Aes.undef, Aes.undef, Aes.undef, Aes.undef, Aes.undef, Aes.undef, Aes.undef, Aes.undef, Aes.undef, Aes.undef, Aes.undef, Aes.undef, Aes.undef, Aes.undef, Aes.undef, Aes.undef, Aes.undef] H : R))
/- refectory/refectoryref04.one -/
noncomputable def r14_24 (k : KT R) : KT R := fun fr H => opn 22 fr (fun s0 s1 s4 s5 s6 s7 s8 s9 s10 s11 s12 s13 s14 s19 s37 s51 s67 s78 s95 s110 s129 s135 => 
(qBld z36 [] fun v145 =>
qSt 3 s4 v145 H fun _ H =>
k [s0, s1, s4, s1, (.bool false), s7, s8, s9, s10, s11, s12, s13, s14, s19, s37, s51, s67, s78, s95, s110, s129, s135] H : R))
noncomputable def r14_21 (k : KT R) : KT R := fun fr H => opn 22 fr (fun s0 s1 s4 s5 s6 s7 s8 s9 s10 s11 s12 s13 s14 s19 s37 s51 s67 s78 s95 s110 s129 s135 => 
(qAdd X 3 s14 (.int .i64 1) fun v131 =>
k [s0, s1, s4, s5, s6, s7, s8, s9, s10, s11, s12, s13, v131, s19, s37, s51, s67, s78, s95, s110, s129, s135] H : R))
noncomputable def r14_23 (k : KT R) : KT R := fun fr H => opn 22 fr (fun s0 s1 s4 s5 s6 s7 s8 s9 s10 s11 s12 s13 s14 s19 s37 s51 s67 s78 s95 s110 s129 s135 => 
(qAdd X 3 s1 (.int .i64 1) fun v139 =>
qSlc Tryz.t9.desc 0 s0 (some s1) (some v139) none fun v140 =>
qBld z36 [(0, 1, (.int .i64 5)), (1, 1, v140), (2, 1, s1)] fun v142 =>
qAdd X 3 s1 (.int .i64 1) fun v144 =>
qSt 3 s4 v142 H fun _ H =>
k [s0, s1, s4, v144, (.bool true), s7, s8, s9, s10, s11, s12, s13, s14, s19, s37, s51, s67, s78, s95, s110, s129, s135] H : R))
noncomputable def r14_22 (k : KT R) : KT R := fun fr H => opn 22 fr (fun s0 s1 s4 s5 s6 s7 s8 s9 s10 s11 s12 s13 s14 s19 s37 s51 s67 s78 s95 s110 s129 s135 => 
(qIx (.str [33,36,38,40,41,58,61,64,91,93,123,124,125]) s14 fun v133 =>
qEql X 5 v133 s7 fun v135 =>
k [s0, s1, s4, s5, s6, s7, s8, s9, s10, s11, s12, s13, s14, s19, s37, s51, s67, s78, s95, s110, s129, v135] H : R))
noncomputable def r14_20 (k : KT R) : KT R := fun fr H => opn 22 fr (fun s0 s1 s4 s5 s6 s7 s8 s9 s10 s11 s12 s13 s14 s19 s37 s51 s67 s78 s95 s110 s129 s135 => 
(qLss X 3 s14 (.int .i64 13) fun v129 =>
k [s0, s1, s4, s5, s6, s7, s8, s9, s10, s11, s12, s13, s14, s19, s37, s51, s67, s78, s95, s110, v129, s135] H : R))
noncomputable def l14_5 (k1 : KT R) (kr : KT R) : KT R → KT R := fun k2 => (r14_20 (qCd (sel 20) (fun k5 => k5) (fun _ => k1) (qBl (fun k3 => (r14_22 (qCd (sel 21) (fun _ => (r14_23 kr)) (fun k4 => k4) k3))) (r14_21 k2))))
noncomputable def r14_19 (k : KT R) : KT R := fun fr H => opn 22 fr (fun s0 s1 s4 s5 s6 s7 s8 s9 s10 s11 s12 s13 s14 s19 s37 s51 s67 s78 s95 s110 s129 s135 => 
(k [s0, s1, s4, s5, s6, s7, s8, s9, s10, s11, s12, s13, (.int .i64 0), s19, s37, s51, s67, s78, s95, s110, s129, s135] H : R))
noncomputable def r14_6 (k : KT R) : KT R := fun fr H => opn 22 fr (fun s0 s1 s4 s5 s6 s7 s8 s9 s10 s11 s12 s13 s14 s19 s37 s51 s67 s78 s95 s110 s129 s135 => 
(qSlc Tryz.t9.desc 0 s0 (some s1) (some s8) none fun v43 =>
qBld z36 [(0, 1, (.int .i64 1)), (1, 1, v43), (2, 1, s1)] fun v45 =>
qSub X 3 s8 s1 fun v49 =>
qLeq X 3 v49 (.int .i64 40) fun v50 =>
qSt 3 s4 v45 H fun _ H =>
k [s0, s1, s4, s8, v50, s7, s8, s9, s10, s11, s12, s13, s14, s19, s37, s51, s67, s78, s95, s110, s129, s135] H : R))
noncomputable def r14_5 (k : KT R) : KT R := fun fr H => opn 22 fr (fun s0 s1 s4 s5 s6 s7 s8 s9 s10 s11 s12 s13 s14 s19 s37 s51 s67 s78 s95 s110 s129 s135 => 
(qAdd X 3 s8 (.int .i64 1) fun v39 =>
k [s0, s1, s4, s5, s6, s7, v39, s9, s10, s11, s12, s13, s14, s19, s37, s51, s67, s78, s95, s110, s129, s135] H : R))
noncomputable def r14_4 (C : CallF) (k : KT R) : KT R := fun fr H => opn 22 fr (fun s0 s1 s4 s5 s6 s7 s8 s9 s10 s11 s12 s13 s14 s19 s37 s51 s67 s78 s95 s110 s129 s135 => 
(qLenS s0 fun v24 =>
qLss X 3 s8 v24 fun v25 =>
qG v25 true (fun k => k s0 H) H fun v27 H =>
qG v25 true (fun k => k s8 H) H fun v28 H =>
qG v25 true (fun k => qIx v27 v28 fun v => k v H) H fun v29 H =>
qG v25 true (fun k => qRes (C 23 [v29] H) k) H fun v30 H =>
qG v25 true (fun k => k v30 H) H fun v31 H =>
qG v31 false (fun k => k s0 H) H fun v32 H =>
qG v31 false (fun k => k s8 H) H fun v33 H =>
qG v31 false (fun k => qIx v32 v33 fun v => k v H) H fun v34 H =>
qG v31 false (fun k => qRes (C 24 [v34] H) k) H fun v35 H =>
qG v25 true (fun k => qPick v31 (.bool true) v35 fun v => k v H) H fun v36 H =>
qPick v25 v36 (.bool false) fun v37 =>
k [s0, s1, s4, s5, s6, s7, s8, s9, s10, s11, s12, s13, s14, s19, v37, s51, s67, s78, s95, s110, s129, s135] H : R))
noncomputable def l14_11 (C : CallF) (k8 : KT R) : KT R → KT R := fun k9 => (r14_4 C (qCd (sel 14) (fun k11 => k11) (fun _ => k8) (qBl (fun k10 => (r14_5 k10)) k9)))
noncomputable def r14_13 (k : KT R) : KT R := fun fr H => opn 22 fr (fun s0 s1 s4 s5 s6 s7 s8 s9 s10 s11 s12 s13 s14 s19 s37 s51 s67 s78 s95 s110 s129 s135 => 
(qSlc Tryz.t9.desc 0 s0 (some s1) (some s8) none fun v90 =>
qBld z36 [(0, 1, (.int .i64 3)), (1, 1, v90), (2, 1, s1)] fun v92 =>
qSt 3 s4 v92 H fun _ H =>
k [s0, s1, s4, s8, s10, s7, s8, s9, s10, s11, s12, s13, s14, s19, s37, s51, s67, s78, s95, s110, s129, s135] H : R))
noncomputable def r14_12 (k : KT R) : KT R := fun fr H => opn 22 fr (fun s0 s1 s4 s5 s6 s7 s8 s9 s10 s11 s12 s13 s14 s19 s37 s51 s67 s78 s95 s110 s129 s135 => 
(qSlc Tryz.t9.desc 0 s0 (some s1) (some s8) none fun v82 =>
qBld z36 [(0, 1, (.int .i64 2)), (1, 1, v82), (2, 1, s1)] fun v84 =>
qSt 3 s4 v84 H fun _ H =>
k [s0, s1, s4, s8, s10, s7, s8, s9, s10, s11, s12, s13, s14, s19, s37, s51, s67, s78, s95, s110, s129, s135] H : R))
noncomputable def r14_11 (k : KT R) : KT R := fun fr H => opn 22 fr (fun s0 s1 s4 s5 s6 s7 s8 s9 s10 s11 s12 s13 s14 s19 s37 s51 s67 s78 s95 s110 s129 s135 => 
(k [s0, s1, s4, s5, s6, s7, s8, s9, s10, s11, s12, s13, s14, s19, s37, s51, s67, s9, s95, s110, s129, s135] H : R))
noncomputable def r14_10 (C : CallF) (k : KT R) : KT R := fun fr H => opn 22 fr (fun s0 s1 s4 s5 s6 s7 s8 s9 s10 s11 s12 s13 s14 s19 s37 s51 s67 s78 s95 s110 s129 s135 => 
(qSlc Tryz.t9.desc 0 s0 (some s1) (some s8) none fun v74 =>
qRes (C 26 [v74] H) fun v75 H =>
qExt v75 0 fun v76 =>
qExt v75 1 fun v77 =>
k [s0, s1, s4, s5, s6, s7, s8, v76, v77, s11, s12, s13, s14, s19, s37, s51, s67, s78, s95, s110, s129, s135] H : R))
noncomputable def r14_9 (k : KT R) : KT R := fun fr H => opn 22 fr (fun s0 s1 s4 s5 s6 s7 s8 s9 s10 s11 s12 s13 s14 s19 s37 s51 s67 s78 s95 s110 s129 s135 => 
(qAdd X 3 s8 (.int .i64 1) fun v69 =>
k [s0, s1, s4, s5, s6, s7, v69, s9, s10, s11, s12, s13, s14, s19, s37, s51, s67, s78, s95, s110, s129, s135] H : R))
noncomputable def r14_8 (C : CallF) (k : KT R) : KT R := fun fr H => opn 22 fr (fun s0 s1 s4 s5 s6 s7 s8 s9 s10 s11 s12 s13 s14 s19 s37 s51 s67 s78 s95 s110 s129 s135 => 
(qLenS s0 fun v60 =>
qLss X 3 s8 v60 fun v61 =>
qG v61 true (fun k => k s0 H) H fun v63 H =>
qG v61 true (fun k => k s8 H) H fun v64 H =>
qG v61 true (fun k => qIx v63 v64 fun v => k v H) H fun v65 H =>
qG v61 true (fun k => qRes (C 25 [v65] H) k) H fun v66 H =>
qPick v61 v66 (.bool false) fun v67 =>
k [s0, s1, s4, s5, s6, s7, s8, s9, s10, s11, s12, s13, s14, s19, s37, s51, v67, s78, s95, s110, s129, s135] H : R))
noncomputable def l14_17 (C : CallF) (k14 : KT R) : KT R → KT R := fun k15 => (r14_8 C (qCd (sel 16) (fun k17 => k17) (fun _ => k14) (qBl (fun k16 => (r14_9 k16)) k15)))
noncomputable def r14_16 (k : KT R) : KT R := fun fr H => opn 22 fr (fun s0 s1 s4 s5 s6 s7 s8 s9 s10 s11 s12 s13 s14 s19 s37 s51 s67 s78 s95 s110 s129 s135 => 
(qBld z36 [(0, 1, (.int .i64 4)), (1, 1, s11), (2, 1, s1)] fun v107 =>
qSt 3 s4 v107 H fun _ H =>
k [s0, s1, s4, s12, s13, s7, s8, s9, s10, s11, s12, s13, s14, s19, s37, s51, s67, s78, s95, s110, s129, s135] H : R))
noncomputable def r14_15 (C : CallF) (k : KT R) : KT R := fun fr H => opn 22 fr (fun s0 s1 s4 s5 s6 s7 s8 s9 s10 s11 s12 s13 s14 s19 s37 s51 s67 s78 s95 s110 s129 s135 => 
(qRes (C 27 [s0, s1] H) fun v101 H =>
qExt v101 0 fun v102 =>
qExt v101 1 fun v103 =>
qExt v101 2 fun v104 =>
k [s0, s1, s4, s5, s6, s7, s8, s9, s10, v102, v103, v104, s14, s19, s37, s51, s67, s78, s95, s110, s129, s135] H : R))
noncomputable def r14_18 (k : KT R) : KT R := fun fr H => opn 22 fr (fun s0 s1 s4 s5 s6 s7 s8 s9 s10 s11 s12 s13 s14 s19 s37 s51 s67 s78 s95 s110 s129 s135 => 
(qBld z36 [(0, 1, (.int .i64 5)), (1, 1, (.str [46,46,46])), (2, 1, s1)] fun v125 =>
qAdd X 3 s1 (.int .i64 3) fun v127 =>
qSt 3 s4 v125 H fun _ H =>
k [s0, s1, s4, v127, (.bool true), s7, s8, s9, s10, s11, s12, s13, s14, s19, s37, s51, s67, s78, s95, s110, s129, s135] H : R))
noncomputable def r14_17 (k : KT R) : KT R := fun fr H => opn 22 fr (fun s0 s1 s4 s5 s6 s7 s8 s9 s10 s11 s12 s13 s14 s19 s37 s51 s67 s78 s95 s110 s129 s135 => 
(qLenS s0 fun v112 =>
qSub X 3 v112 s1 fun v114 =>
qGeq X 3 v114 (.int .i64 3) fun v115 =>
qG v115 true (fun k => k s0 H) H fun v117 H =>
qG v115 true (fun k => k s1 H) H fun v118 H =>
qG v115 true (fun k => k s1 H) H fun v119 H =>
qG v115 true (fun k => qAdd X 3 v119 (.int .i64 3) fun v => k v H) H fun v120 H =>
qG v115 true (fun k => qSlc Tryz.t9.desc 0 v117 (some v118) (some v120) none fun v => k v H) H fun v121 H =>
qG v115 true (fun k => qEql X 9 v121 (.str [46,46,46]) fun v => k v H) H fun v122 H =>
qPick v115 v122 (.bool false) fun v123 =>
k [s0, s1, s4, s5, s6, s7, s8, s9, s10, s11, s12, s13, s14, s19, s37, s51, s67, s78, s95, v123, s129, s135] H : R))
noncomputable def r14_14 (k : KT R) : KT R := fun fr H => opn 22 fr (fun s0 s1 s4 s5 s6 s7 s8 s9 s10 s11 s12 s13 s14 s19 s37 s51 s67 s78 s95 s110 s129 s135 => 
(qEql X 5 s7 (.int .u8 34) fun v97 =>
k [s0, s1, s4, s5, s6, s7, s8, s9, s10, s11, s12, s13, s14, s19, s37, s51, s67, s78, v97, s110, s129, s135] H : R))
noncomputable def r14_7 (C : CallF) (k : KT R) : KT R := fun fr H => opn 22 fr (fun s0 s1 s4 s5 s6 s7 s8 s9 s10 s11 s12 s13 s14 s19 s37 s51 s67 s78 s95 s110 s129 s135 => 
(qEql X 5 s7 (.int .u8 45) fun v53 =>
qG v53 false (fun k => k s7 H) H fun v55 H =>
qG v53 false (fun k => qRes (C 24 [v55] H) k) H fun v56 H =>
qPick v53 (.bool true) v56 fun v57 =>
k [s0, s1, s4, s5, s6, s7, s8, s9, s10, s11, s12, s13, s14, s19, s37, v57, s67, s78, s95, s110, s129, s135] H : R))
noncomputable def r14_3 (C : CallF) (k : KT R) : KT R := fun fr H => opn 22 fr (fun s0 s1 s4 s5 s6 s7 s8 s9 s10 s11 s12 s13 s14 s19 s37 s51 s67 s78 s95 s110 s129 s135 => 
(qRes (C 23 [s7] H) fun v21 H =>
k [s0, s1, s4, s5, s6, s7, s8, s9, s10, s11, s12, s13, s14, v21, s37, s51, s67, s78, s95, s110, s129, s135] H : R))
noncomputable def r14_2 (k : KT R) : KT R := fun fr H => opn 22 fr (fun s0 s1 s4 s5 s6 s7 s8 s9 s10 s11 s12 s13 s14 s19 s37 s51 s67 s78 s95 s110 s129 s135 => 
(k [s0, s1, s4, s5, s6, s7, s1, s9, s10, s11, s12, s13, s14, s19, s37, s51, s67, s78, s95, s110, s129, s135] H : R))
noncomputable def r14_1 (k : KT R) : KT R := fun fr H => opn 22 fr (fun s0 s1 s4 s5 s6 s7 s8 s9 s10 s11 s12 s13 s14 s19 s37 s51 s67 s78 s95 s110 s129 s135 => 
(qIx s0 s1 fun v17 =>
k [s0, s1, s4, s5, s6, v17, s8, s9, s10, s11, s12, s13, s14, s19, s37, s51, s67, s78, s95, s110, s129, s135] H : R))
noncomputable def r14_0 (k : KT R) : KT R := fun fr H => opn 22 fr (fun s0 s1 s4 s5 s6 s7 s8 s9 s10 s11 s12 s13 s14 s19 s37 s51 s67 s78 s95 s110 s129 s135 => 
(qNew (.cells z36) .ptr H fun v4 H =>
k [s0, s1, v4, (.int .i64 0), (.bool false), s7, s8, s9, s10, s11, s12, s13, s14, s19, s37, s51, s67, s78, s95, s110, s129, s135] H : R))
noncomputable def c14 (C : CallF) (l0 : List AV) (H : AH) (k : AV → AH → R) : R := opn 2 l0 (fun x0 x1 => (qFn (fun kr => (r14_0 (r14_1 (r14_2 (qBl (fun k6 => (r14_3 C (qCd (sel 13) (fun _ => (qBl (fun k8 => (qLoop (l14_11 C k8))) (r14_6 kr))) (fun k7 => (r14_7 C (qCd (sel 15) (fun _ => (qBl (fun k14 => (qLoop (l14_17 C k14))) (r14_10 C (r14_11 (qCd (sel 17) (fun _ => (r14_12 kr)) (fun k13 => k13) (r14_13 kr)))))) (fun k12 => (r14_14 (qCd (sel 18) (fun _ => (r14_15 C (r14_16 kr))) (fun k18 => (r14_17 (qCd (sel 19) (fun _ => (r14_18 kr)) (fun k19 => k19) k18))) k12))) k7))) k6))) (r14_19 (qBl (fun k1 => (qLoop (l14_5 k1 kr))) (r14_24 kr))))))))
(fun fr H => qPtr (sel 2 fr) (qLdA 3 (sel 2 fr) H fun w0 => k (.tup [w0, (sel 3 fr), (sel 4 fr)]) H)) [x0, x1, Aes.undef, Aes.undef, Aes.undef, Aes.undef, Aes.undef, Aes.undef, Aes.undef, Aes.undef, Aes.undef, Aes.undef, Aes.undef, Aes.undef, Aes.undef, Aes.undef, Aes.undef, Aes.undef, Aes.undef, Aes.undef, Aes.undef, Aes.undef] H : R))
/- refectory/lex.digit -/
noncomputable def r16_1 (k : KT R) : KT R := fun fr H => opn 2 fr (fun s0 s2 => 
(qGeq X 5 s0 (.int .u8 48) fun v4 =>
qG v4 true (fun k => k s0 H) H fun v6 H =>
qG v4 true (fun k => qLeq X 5 v6 (.int .u8 57) fun v => k v H) H fun v7 H =>
qPick v4 v7 (.bool false) fun v8 =>
k [s0, v8] H : R))
noncomputable def r16_0 (k : KT R) : KT R := fun fr H => opn 2 fr (fun s0 s2 => 
(k [s0, (.bool false)] H : R))
noncomputable def c16 (C : CallF) (l0 : List AV) (H : AH) (k : AV → AH → R) : R := opn 1 l0 (fun x0 => (qFn (fun kr => (r16_0 (r16_1 kr)))
(fun fr H => k (sel 1 fr) H) [x0, Aes.undef] H : R))
/- refectory/lex.token$1 -/
noncomputable def r17_1 (C : CallF) (k : KT R) : KT R := fun fr H => opn 2 fr (fun s0 s2 => 
(qRes (C 18 [s0] H) fun v4 H =>
qG v4 false (fun k => k s0 H) H fun v6 H =>
qG v4 false (fun k => qRes (C 10 [(.str [46,43,45]), v6] H) k) H fun v7 H =>
qG v4 false (fun k => qGeq X 3 v7 (.int .i64 0) fun v => k v H) H fun v8 H =>
qPick v4 (.bool true) v8 fun v9 =>
k [s0, v9] H : R))
noncomputable def r17_0 (k : KT R) : KT R := fun fr H => opn 2 fr (fun s0 s2 => 
(k [s0, (.bool false)] H : R))
noncomputable def c17 (C : CallF) (l0 : List AV) (H : AH) (k : AV → AH → R) : R := opn 1 l0 (fun x0 => (qFn (fun kr => (r17_0 (r17_1 C kr)))
(fun fr H => k (sel 1 fr) H) [x0, Aes.undef] H : R))
/- refectory/lex.letter -/
noncomputable def r18_1 (C : CallF) (k : KT R) : KT R := fun fr H => opn 2 fr (fun s0 s2 => 
(qGeq X 5 s0 (.int .u8 97) fun v4 =>
qG v4 true (fun k => k s0 H) H fun v6 H =>
qG v4 true (fun k => qLeq X 5 v6 (.int .u8 122) fun v => k v H) H fun v7 H =>
qPick v4 v7 (.bool false) fun v8 =>
qG v8 false (fun k => k s0 H) H fun v10 H =>
qG v8 false (fun k => qGeq X 5 v10 (.int .u8 65) fun v => k v H) H fun v11 H =>
qG v8 false (fun k => k v11 H) H fun v12 H =>
qG v12 true (fun k => k s0 H) H fun v13 H =>
qG v12 true (fun k => qLeq X 5 v13 (.int .u8 90) fun v => k v H) H fun v14 H =>
qG v8 false (fun k => qPick v12 v14 (.bool false) fun v => k v H) H fun v15 H =>
qPick v8 (.bool true) v15 fun v16 =>
qG v16 false (fun k => k s0 H) H fun v18 H =>
qG v16 false (fun k => qEql X 5 v18 (.int .u8 95) fun v => k v H) H fun v19 H =>
qPick v16 (.bool true) v19 fun v20 =>
qG v20 false (fun k => k s0 H) H fun v22 H =>
qG v20 false (fun k => qRes (C 16 [v22] H) k) H fun v23 H =>
qPick v20 (.bool true) v23 fun v24 =>
k [s0, v24] H : R))
noncomputable def r18_0 (k : KT R) : KT R := fun fr H => opn 2 fr (fun s0 s2 => 
(k [s0, (.bool false)] H : R))
noncomputable def c18 (C : CallF) (l0 : List AV) (H : AH) (k : AV → AH → R) : R := opn 1 l0 (fun x0 => (qFn (fun kr => (r18_0 (r18_1 C kr)))
(fun fr H => k (sel 1 fr) H) [x0, Aes.undef] H : R))
/- refectory/jval.Number -/
noncomputable def r19_23 (k : KT R) : KT R := fun fr H => opn 15 fr (fun s0 s2 s3 s4 s5 s6 s7 s8 s11 s26 s37 s41 s52 s62 s68 => 
(qG s2 true (fun k => k s0 H) H fun v74 H =>
qG s2 true (fun k => qEql X 9 v74 (.str []) fun v => k v H) H fun v75 H =>
qPick s2 v75 (.bool false) fun v76 =>
qEql X 9 s0 (.str []) fun v78 =>
k [s0, v76, v78, s4, s5, s6, s7, s8, s11, s26, s37, s41, s52, s62, s68] H : R))
noncomputable def r19_22 (k : KT R) : KT R := fun fr H => opn 15 fr (fun s0 s2 s3 s4 s5 s6 s7 s8 s11 s26 s37 s41 s52 s62 s68 => 
(qSlc Tryz.t9.desc 0 s0 (some s8) none none fun v71 =>
k [v71, s2, s3, s4, s5, s6, s7, s8, s11, s26, s37, s41, s52, s62, s68] H : R))
noncomputable def r19_21 (k : KT R) : KT R := fun fr H => opn 15 fr (fun s0 s2 s3 s4 s5 s6 s7 s8 s11 s26 s37 s41 s52 s62 s68 => 
(k [s0, (.bool false), (.bool false), s4, s5, s6, s7, s8, s11, s26, s37, s41, s52, s62, s68] H : R))
noncomputable def r19_20 (k : KT R) : KT R := fun fr H => opn 15 fr (fun s0 s2 s3 s4 s5 s6 s7 s8 s11 s26 s37 s41 s52 s62 s68 => 
(qEql X 3 s8 (.int .i64 0) fun v68 =>
k [s0, s2, s3, s4, s5, s6, s7, s8, s11, s26, s37, s41, s52, s62, v68] H : R))
noncomputable def r19_19 (C : CallF) (k : KT R) : KT R := fun fr H => opn 15 fr (fun s0 s2 s3 s4 s5 s6 s7 s8 s11 s26 s37 s41 s52 s62 s68 => 
(qRes (C 30 [s0] H) fun v66 H =>
k [s0, s2, s3, s4, s5, s6, s7, v66, s11, s26, s37, s41, s52, s62, s68] H : R))
noncomputable def r19_18 (k : KT R) : KT R := fun fr H => opn 15 fr (fun s0 s2 s3 s4 s5 s6 s7 s8 s11 s26 s37 s41 s52 s62 s68 => 
(qSlc Tryz.t9.desc 0 s0 (some (.int .i64 1)) none none fun v64 =>
k [v64, s2, s3, s4, s5, s6, s7, s8, s11, s26, s37, s41, s52, s62, s68] H : R))
noncomputable def r19_17 (C : CallF) (k : KT R) : KT R := fun fr H => opn 15 fr (fun s0 s2 s3 s4 s5 s6 s7 s8 s11 s26 s37 s41 s52 s62 s68 => 
(qNeq X 9 s0 (.str []) fun v56 =>
qG v56 true (fun k => k s0 H) H fun v58 H =>
qG v56 true (fun k => qIx v58 (.int .i64 0) fun v => k v H) H fun v59 H =>
qG v56 true (fun k => qRes (C 10 [(.str [43,45]), v59] H) k) H fun v60 H =>
qG v56 true (fun k => qGeq X 3 v60 (.int .i64 0) fun v => k v H) H fun v61 H =>
qPick v56 v61 (.bool false) fun v62 =>
k [s0, s2, s3, s4, s5, s6, s7, s8, s11, s26, s37, s41, s52, v62, s68] H : R))
noncomputable def r19_16 (k : KT R) : KT R := fun fr H => opn 15 fr (fun s0 s2 s3 s4 s5 s6 s7 s8 s11 s26 s37 s41 s52 s62 s68 => 
(qSlc Tryz.t9.desc 0 s0 (some (.int .i64 1)) none none fun v54 =>
k [v54, s2, s3, s4, s5, s6, s7, s8, s11, s26, s37, s41, s52, s62, s68] H : R))
noncomputable def r19_15 (C : CallF) (k : KT R) : KT R := fun fr H => opn 15 fr (fun s0 s2 s3 s4 s5 s6 s7 s8 s11 s26 s37 s41 s52 s62 s68 => 
(qNeq X 9 s0 (.str []) fun v46 =>
qG v46 true (fun k => k s0 H) H fun v48 H =>
qG v46 true (fun k => qIx v48 (.int .i64 0) fun v => k v H) H fun v49 H =>
qG v46 true (fun k => qRes (C 10 [(.str [101,69]), v49] H) k) H fun v50 H =>
qG v46 true (fun k => qGeq X 3 v50 (.int .i64 0) fun v => k v H) H fun v51 H =>
qPick v46 v51 (.bool false) fun v52 =>
k [s0, s2, s3, s4, s5, s6, s7, s8, s11, s26, s37, s41, v52, s62, s68] H : R))
noncomputable def r19_14 (k : KT R) : KT R := fun fr H => opn 15 fr (fun s0 s2 s3 s4 s5 s6 s7 s8 s11 s26 s37 s41 s52 s62 s68 => 
(qSlc Tryz.t9.desc 0 s5 (some s7) none none fun v44 =>
k [v44, s2, s3, s4, s5, s6, s7, s8, s11, s26, s37, s41, s52, s62, s68] H : R))
noncomputable def r19_13 (k : KT R) : KT R := fun fr H => opn 15 fr (fun s0 s2 s3 s4 s5 s6 s7 s8 s11 s26 s37 s41 s52 s62 s68 => 
(k [s0, (.bool false), (.bool false), s4, s5, s6, s7, s8, s11, s26, s37, s41, s52, s62, s68] H : R))
noncomputable def r19_12 (k : KT R) : KT R := fun fr H => opn 15 fr (fun s0 s2 s3 s4 s5 s6 s7 s8 s11 s26 s37 s41 s52 s62 s68 => 
(qEql X 3 s7 (.int .i64 0) fun v41 =>
k [s0, s2, s3, s4, s5, s6, s7, s8, s11, s26, s37, v41, s52, s62, s68] H : R))
noncomputable def r19_11 (C : CallF) (k : KT R) : KT R := fun fr H => opn 15 fr (fun s0 s2 s3 s4 s5 s6 s7 s8 s11 s26 s37 s41 s52 s62 s68 => 
(qRes (C 30 [s5] H) fun v39 H =>
k [s0, s2, s3, s4, s5, s6, v39, s8, s11, s26, s37, s41, s52, s62, s68] H : R))
noncomputable def r19_10 (k : KT R) : KT R := fun fr H => opn 15 fr (fun s0 s2 s3 s4 s5 s6 s7 s8 s11 s26 s37 s41 s52 s62 s68 => 
(k [s0, s2, s3, s4, s5, s6, s7, s8, s11, s26, s6, s41, s52, s62, s68] H : R))
noncomputable def r19_9 (C : CallF) (k : KT R) : KT R := fun fr H => opn 15 fr (fun s0 s2 s3 s4 s5 s6 s7 s8 s11 s26 s37 s41 s52 s62 s68 => 
(qRes (C 31 [s0, (.str [46])] H) fun v34 H =>
qExt v34 0 fun v35 =>
qExt v34 1 fun v36 =>
k [s0, s2, s3, s4, v35, v36, s7, s8, s11, s26, s37, s41, s52, s62, s68] H : R))
noncomputable def r19_8 (k : KT R) : KT R := fun fr H => opn 15 fr (fun s0 s2 s3 s4 s5 s6 s7 s8 s11 s26 s37 s41 s52 s62 s68 => 
(qEql X 9 s0 (.str []) fun v31 =>
k [s0, v31, s3, s4, s5, s6, s7, s8, s11, s26, s37, s41, s52, s62, s68] H : R))
noncomputable def r19_7 (k : KT R) : KT R := fun fr H => opn 15 fr (fun s0 s2 s3 s4 s5 s6 s7 s8 s11 s26 s37 s41 s52 s62 s68 => 
(qSlc Tryz.t9.desc 0 s0 (some s4) none none fun v29 =>
k [v29, s2, s3, s4, s5, s6, s7, s8, s11, s26, s37, s41, s52, s62, s68] H : R))
noncomputable def r19_6 (k : KT R) : KT R := fun fr H => opn 15 fr (fun s0 s2 s3 s4 s5 s6 s7 s8 s11 s26 s37 s41 s52 s62 s68 => 
(k [s0, (.bool false), (.bool false), s4, s5, s6, s7, s8, s11, s26, s37, s41, s52, s62, s68] H : R))
noncomputable def r19_5 (k : KT R) : KT R := fun fr H => opn 15 fr (fun s0 s2 s3 s4 s5 s6 s7 s8 s11 s26 s37 s41 s52 s62 s68 => 
(qEql X 3 s4 (.int .i64 0) fun v17 =>
qG v17 false (fun k => k s4 H) H fun v19 H =>
qG v17 false (fun k => qGtr X 3 v19 (.int .i64 1) fun v => k v H) H fun v20 H =>
qG v17 false (fun k => k v20 H) H fun v21 H =>
qG v21 true (fun k => k s0 H) H fun v22 H =>
qG v21 true (fun k => qIx v22 (.int .i64 0) fun v => k v H) H fun v23 H =>
qG v21 true (fun k => qEql X 5 v23 (.int .u8 48) fun v => k v H) H fun v24 H =>
qG v17 false (fun k => qPick v21 v24 (.bool false) fun v => k v H) H fun v25 H =>
qPick v17 (.bool true) v25 fun v26 =>
k [s0, s2, s3, s4, s5, s6, s7, s8, s11, v26, s37, s41, s52, s62, s68] H : R))
noncomputable def r19_4 (C : CallF) (k : KT R) : KT R := fun fr H => opn 15 fr (fun s0 s2 s3 s4 s5 s6 s7 s8 s11 s26 s37 s41 s52 s62 s68 => 
(qRes (C 30 [s0] H) fun v15 H =>
k [s0, s2, s3, v15, s5, s6, s7, s8, s11, s26, s37, s41, s52, s62, s68] H : R))
noncomputable def r19_3 (C : CallF) (k : KT R) : KT R := fun fr H => opn 15 fr (fun s0 s2 s3 s4 s5 s6 s7 s8 s11 s26 s37 s41 s52 s62 s68 => 
(qRes (C 29 [s0, (.str [45])] H) fun v13 H =>
k [v13, s2, s3, s4, s5, s6, s7, s8, s11, s26, s37, s41, s52, s62, s68] H : R))
noncomputable def r19_2 (k : KT R) : KT R := fun fr H => opn 15 fr (fun s0 s2 s3 s4 s5 s6 s7 s8 s11 s26 s37 s41 s52 s62 s68 => 
(k [s0, (.bool false), (.bool false), s4, s5, s6, s7, s8, s11, s26, s37, s41, s52, s62, s68] H : R))
noncomputable def r19_1 (k : KT R) : KT R := fun fr H => opn 15 fr (fun s0 s2 s3 s4 s5 s6 s7 s8 s11 s26 s37 s41 s52 s62 s68 => 
(qLenS s0 fun v10 =>
qGtr X 3 v10 (.int .i64 40) fun v11 =>
k [s0, s2, s3, s4, s5, s6, s7, s8, v11, s26, s37, s41, s52, s62, s68] H : R))
noncomputable def r19_0 (k : KT R) : KT R := fun fr H => opn 15 fr (fun s0 s2 s3 s4 s5 s6 s7 s8 s11 s26 s37 s41 s52 s62 s68 => 
(k [s0, (.bool false), (.bool false), s4, s5, s6, s7, s8, s11, s26, s37, s41, s52, s62, s68] H : R))
noncomputable def c19 (C : CallF) (l0 : List AV) (H : AH) (k : AV → AH → R) : R := opn 1 l0 (fun x0 => (qFn (fun kr => (r19_0 (r19_1 (qCd (sel 8) (fun _ => (r19_2 kr)) (fun k7 => k7) (r19_3 C (r19_4 C (r19_5 (qCd (sel 9) (fun _ => (r19_6 kr)) (fun k6 => k6) (r19_7 (r19_8 (r19_9 C (r19_10 (qCd (sel 10) (fun k4 => (r19_11 C (r19_12 (qCd (sel 11) (fun _ => (r19_13 kr)) (fun k5 => k5) (r19_14 k4))))) (fun k4 => k4) (r19_15 C (qCd (sel 12) (fun k1 => (r19_16 (r19_17 C (qCd (sel 13) (fun k3 => (r19_18 k3)) (fun k3 => k3) (r19_19 C (r19_20 (qCd (sel 14) (fun _ => (r19_21 kr)) (fun k2 => k2) (r19_22 k1)))))))) (fun k1 => k1) (r19_23 kr))))))))))))))))
(fun fr H => k (.tup [(sel 1 fr), (sel 2 fr)]) H) [x0, Aes.undef, Aes.undef, Aes.undef, Aes.undef, Aes.undef, Aes.undef, Aes.undef, Aes.undef, Aes.undef, Aes.undef, Aes.undef, Aes.undef, Aes.undef, Aes.undef] H : R))
/- strings.HasPrefix -/
noncomputable def r20_1 (C : CallF) (k : KT R) : KT R := fun fr H => opn 3 fr (fun s0 s1 s4 => 
(qRes (C 32 [s0, s1] H) fun v7 H =>
k [s0, s1, v7] H : R))
noncomputable def r20_0 (k : KT R) : KT R := fun fr H => opn 3 fr (fun s0 s1 s4 => 
(k [s0, s1, (.bool false)] H : R))
noncomputable def c20 (C : CallF) (l0 : List AV) (H : AH) (k : AV → AH → R) : R := opn 2 l0 (fun x0 x1 => (qFn (fun kr => (r20_0 (r20_1 C kr)))
(fun fr H => k (sel 2 fr) H) [x0, x1, Aes.undef] H : R))
/- refectory/lex.block -/
noncomputable def r21_14 (k : KT R) : KT R := fun fr H => opn 10 fr (fun s0 s2 s3 s4 s5 s6 s10 s20 s26 s31 => 
(k [s0, (.str []), (.int .i64 0), s4, s5, s6, s10, s20, s26, s31] H : R))
noncomputable def r21_9 (k : KT R) : KT R := fun fr H => opn 10 fr (fun s0 s2 s3 s4 s5 s6 s10 s20 s26 s31 => 
(qAdd X 3 s5 (.int .i64 4) fun v25 =>
k [s0, s2, s3, s4, v25, s6, s10, s20, s26, s31] H : R))
noncomputable def r21_8 (C : CallF) (k : KT R) : KT R := fun fr H => opn 10 fr (fun s0 s2 s3 s4 s5 s6 s10 s20 s26 s31 => 
(qRes (C 33 [s4, (.str [34,34,34])] H) fun v23 H =>
k [s0, s2, s3, s4, s5, s6, s10, s20, s26, s31] H : R))
noncomputable def r21_13 (C : CallF) (k : KT R) : KT R := fun fr H => opn 10 fr (fun s0 s2 s3 s4 s5 s6 s10 s20 s26 s31 => 
(qRes (C 35 [s4] H) fun v32 H =>
qRes (C 36 [v32] H) fun v33 H =>
qAdd X 3 s5 (.int .i64 3) fun v35 =>
k [s0, v33, v35, s4, s5, s6, s10, s20, s26, s31] H : R))
noncomputable def r21_12 (k : KT R) : KT R := fun fr H => opn 10 fr (fun s0 s2 s3 s4 s5 s6 s10 s20 s26 s31 => 
(k [s0, (.str []), (.int .i64 0), s4, s5, s6, s10, s20, s26, s31] H : R))
noncomputable def r21_11 (C : CallF) (k : KT R) : KT R := fun fr H => opn 10 fr (fun s0 s2 s3 s4 s5 s6 s10 s20 s26 s31 => 
(qRes (C 35 [s4] H) fun v29 H =>
qRes (C 34 [v29] H) fun v30 H =>
qNot v30 fun v31 =>
k [s0, s2, s3, s4, s5, s6, s10, s20, s26, v31] H : R))
noncomputable def r21_6 (k : KT R) : KT R := fun fr H => opn 10 fr (fun s0 s2 s3 s4 s5 s6 s10 s20 s26 s31 => 
(qAdd X 3 s5 (.int .i64 1) fun v19 =>
k [s0, s2, s3, s4, v19, s6, s10, s20, s26, s31] H : R))
noncomputable def r21_5 (C : CallF) (k : KT R) : KT R := fun fr H => opn 10 fr (fun s0 s2 s3 s4 s5 s6 s10 s20 s26 s31 => 
(qIx s0 s5 fun v16 =>
qRes (C 37 [s4, v16] H) fun v17 H =>
k [s0, s2, s3, s4, s5, s6, s10, s20, s26, s31] H : R))
noncomputable def r21_10 (C : CallF) (k : KT R) : KT R := fun fr H => opn 10 fr (fun s0 s2 s3 s4 s5 s6 s10 s20 s26 s31 => 
(qRes (C 20 [s6, (.str [34,34,34])] H) fun v28 H =>
k [s0, s2, s3, s4, s5, s6, s10, s20, v28, s31] H : R))
noncomputable def r21_7 (C : CallF) (k : KT R) : KT R := fun fr H => opn 10 fr (fun s0 s2 s3 s4 s5 s6 s10 s20 s26 s31 => 
(qRes (C 20 [s6, (.str [92,34,34,34])] H) fun v22 H =>
k [s0, s2, s3, s4, s5, s6, s10, v22, s26, s31] H : R))
noncomputable def r21_4 (k : KT R) : KT R := fun fr H => opn 10 fr (fun s0 s2 s3 s4 s5 s6 s10 s20 s26 s31 => 
(qSlc Tryz.t9.desc 0 s0 (some s5) none none fun v13 =>
k [s0, s2, s3, s4, s5, v13, s10, s20, s26, s31] H : R))
noncomputable def r21_3 (k : KT R) : KT R := fun fr H => opn 10 fr (fun s0 s2 s3 s4 s5 s6 s10 s20 s26 s31 => 
(qLenS s0 fun v9 =>
qLss X 3 s5 v9 fun v10 =>
k [s0, s2, s3, s4, s5, s6, v10, s20, s26, s31] H : R))
noncomputable def l21_8 (C : CallF) (k1 : KT R) (kr : KT R) : KT R → KT R := fun k2 => (r21_3 (qCd (sel 6) (fun k8 => k8) (fun _ => k1) (qBl (fun k3 => (r21_4 (qBl (fun k4 => (r21_7 C (qCd (sel 7) (fun k5 => (r21_8 C (r21_9 k5))) (fun k5 => (r21_10 C (qCd (sel 8) (fun _ => (r21_11 C (qCd (sel 9) (fun _ => (r21_12 kr)) (fun k7 => k7) (r21_13 C kr)))) (fun k6 => (r21_5 C (r21_6 k6))) k5))) k4))) k3))) k2)))
noncomputable def r21_2 (k : KT R) : KT R := fun fr H => opn 10 fr (fun s0 s2 s3 s4 s5 s6 s10 s20 s26 s31 => 
(k [s0, s2, s3, s4, (.int .i64 3), s6, s10, s20, s26, s31] H : R))
noncomputable def r21_1 (k : KT R) : KT R := fun fr H => opn 10 fr (fun s0 s2 s3 s4 s5 s6 s10 s20 s26 s31 => 
(qNew (.obj 60 0 z60) .ptr H fun v4 H =>
k [s0, s2, s3, v4, s5, s6, s10, s20, s26, s31] H : R))
noncomputable def r21_0 (k : KT R) : KT R := fun fr H => opn 10 fr (fun s0 s2 s3 s4 s5 s6 s10 s20 s26 s31 => 
(k [s0, (.str []), (.int .i64 0), s4, s5, s6, s10, s20, s26, s31] H : R))
noncomputable def c21 (C : CallF) (l0 : List AV) (H : AH) (k : AV → AH → R) : R := opn 1 l0 (fun x0 => (qFn (fun kr => (r21_0 (r21_1 (r21_2 (qBl (fun k1 => (qLoop (l21_8 C k1 kr))) (r21_14 kr))))))
(fun fr H => k (.tup [(sel 1 fr), (sel 2 fr)]) H) [x0, Aes.undef, Aes.undef, Aes.undef, Aes.undef, Aes.undef, Aes.undef, Aes.undef, Aes.undef, Aes.undef] H : R))
/- refectory/lex.line -/
noncomputable def r22_11 (k : KT R) : KT R := fun fr H => opn 10 fr (fun s0 s2 s3 s4 s5 s6 s16 s20 s34 s44 => 
(qAdd X 3 s4 (.int .i64 1) fun v47 =>
k [s0, s5, v47, s4, s5, s6, s16, s20, s34, s44] H : R))
noncomputable def r22_10 (k : KT R) : KT R := fun fr H => opn 10 fr (fun s0 s2 s3 s4 s5 s6 s16 s20 s34 s44 => 
(k [s0, (.str []), (.int .i64 0), s4, s5, s6, s16, s20, s34, s44] H : R))
noncomputable def r22_9 (k : KT R) : KT R := fun fr H => opn 10 fr (fun s0 s2 s3 s4 s5 s6 s16 s20 s34 s44 => 
(qNot s6 fun v44 =>
k [s0, s2, s3, s4, s5, s6, s16, s20, s34, v44] H : R))
noncomputable def r22_8 (C : CallF) (k : KT R) : KT R := fun fr H => opn 10 fr (fun s0 s2 s3 s4 s5 s6 s16 s20 s34 s44 => 
(qAdd X 3 s4 (.int .i64 1) fun v38 =>
qSlc Tryz.t9.desc 0 s0 none (some v38) none fun v39 =>
qRes (C 39 [v39] H) fun v40 H =>
qExt v40 0 fun v41 =>
qExt v40 1 fun v42 =>
k [s0, s2, s3, s4, v41, v42, s16, s20, s34, s44] H : R))
noncomputable def r22_7 (k : KT R) : KT R := fun fr H => opn 10 fr (fun s0 s2 s3 s4 s5 s6 s16 s20 s34 s44 => 
(k [s0, (.str []), (.int .i64 0), s4, s5, s6, s16, s20, s34, s44] H : R))
noncomputable def r22_6 (C : CallF) (k : KT R) : KT R := fun fr H => opn 10 fr (fun s0 s2 s3 s4 s5 s6 s16 s20 s34 s44 => 
(qLenS s0 fun v27 =>
qGeq X 3 s4 v27 fun v28 =>
qG v28 false (fun k => k s0 H) H fun v30 H =>
qG v28 false (fun k => k s4 H) H fun v31 H =>
qG v28 false (fun k => qSlc Tryz.t9.desc 0 v30 none (some v31) none fun v => k v H) H fun v32 H =>
qG v28 false (fun k => qRes (C 38 [v32, (.str [10,13])] H) k) H fun v33 H =>
qPick v28 (.bool true) v33 fun v34 =>
k [s0, s2, s3, s4, s5, s6, s16, s20, v34, s44] H : R))
noncomputable def r22_5 (k : KT R) : KT R := fun fr H => opn 10 fr (fun s0 s2 s3 s4 s5 s6 s16 s20 s34 s44 => 
(qAdd X 3 s4 (.int .i64 1) fun v24 =>
k [s0, s2, s3, v24, s5, s6, s16, s20, s34, s44] H : R))
noncomputable def r22_4 (k : KT R) : KT R := fun fr H => opn 10 fr (fun s0 s2 s3 s4 s5 s6 s16 s20 s34 s44 => 
(qAdd X 3 s4 (.int .i64 1) fun v22 =>
k [s0, s2, s3, v22, s5, s6, s16, s20, s34, s44] H : R))
noncomputable def r22_3 (k : KT R) : KT R := fun fr H => opn 10 fr (fun s0 s2 s3 s4 s5 s6 s16 s20 s34 s44 => 
(qIx s0 s4 fun v19 =>
qEql X 5 v19 (.int .u8 92) fun v20 =>
k [s0, s2, s3, s4, s5, s6, s16, v20, s34, s44] H : R))
noncomputable def r22_2 (k : KT R) : KT R := fun fr H => opn 10 fr (fun s0 s2 s3 s4 s5 s6 s16 s20 s34 s44 => 
(qLenS s0 fun v9 =>
qLss X 3 s4 v9 fun v10 =>
qG v10 true (fun k => k s0 H) H fun v12 H =>
qG v10 true (fun k => k s4 H) H fun v13 H =>
qG v10 true (fun k => qIx v12 v13 fun v => k v H) H fun v14 H =>
qG v10 true (fun k => qNeq X 5 v14 (.int .u8 34) fun v => k v H) H fun v15 H =>
qPick v10 v15 (.bool false) fun v16 =>
k [s0, s2, s3, s4, s5, s6, v16, s20, s34, s44] H : R))
noncomputable def l22_7 (k3 : KT R) : KT R → KT R := fun k4 => (r22_2 (qCd (sel 6) (fun k7 => k7) (fun _ => k3) (qBl (fun k5 => (r22_3 (qCd (sel 7) (fun k6 => (r22_4 k6)) (fun k6 => k6) (r22_5 k5)))) k4)))
noncomputable def r22_1 (k : KT R) : KT R := fun fr H => opn 10 fr (fun s0 s2 s3 s4 s5 s6 s16 s20 s34 s44 => 
(k [s0, s2, s3, (.int .i64 1), s5, s6, s16, s20, s34, s44] H : R))
noncomputable def r22_0 (k : KT R) : KT R := fun fr H => opn 10 fr (fun s0 s2 s3 s4 s5 s6 s16 s20 s34 s44 => 
(k [s0, (.str []), (.int .i64 0), s4, s5, s6, s16, s20, s34, s44] H : R))
noncomputable def c22 (C : CallF) (l0 : List AV) (H : AH) (k : AV → AH → R) : R := opn 1 l0 (fun x0 => (qFn (fun kr => (r22_0 (r22_1 (qBl (fun k3 => (qLoop (l22_7 k3))) (r22_6 C (qCd (sel 8) (fun _ => (r22_7 kr)) (fun k2 => k2) (r22_8 C (r22_9 (qCd (sel 9) (fun _ => (r22_10 kr)) (fun k1 => k1) (r22_11 kr))))))))))
(fun fr H => k (.tup [(sel 1 fr), (sel 2 fr)]) H) [x0, Aes.undef, Aes.undef, Aes.undef, Aes.undef, Aes.undef, Aes.undef, Aes.undef, Aes.undef, Aes.undef] H : R))
/- refectory/refectoryref01.Letter -/
noncomputable def r23_1 (k : KT R) : KT R := fun fr H => opn 2 fr (fun s0 s2 => 
(qGeq X 5 s0 (.int .u8 97) fun v4 =>
qG v4 true (fun k => k s0 H) H fun v6 H =>
qG v4 true (fun k => qLeq X 5 v6 (.int .u8 122) fun v => k v H) H fun v7 H =>
qPick v4 v7 (.bool false) fun v8 =>
qG v8 false (fun k => k s0 H) H fun v10 H =>
qG v8 false (fun k => qGeq X 5 v10 (.int .u8 65) fun v => k v H) H fun v11 H =>
qG v8 false (fun k => k v11 H) H fun v12 H =>
qG v12 true (fun k => k s0 H) H fun v13 H =>
qG v12 true (fun k => qLeq X 5 v13 (.int .u8 90) fun v => k v H) H fun v14 H =>
qG v8 false (fun k => qPick v12 v14 (.bool false) fun v => k v H) H fun v15 H =>
qPick v8 (.bool true) v15 fun v16 =>
qG v16 false (fun k => k s0 H) H fun v18 H =>
qG v16 false (fun k => qEql X 5 v18 (.int .u8 95) fun v => k v H) H fun v19 H =>
qPick v16 (.bool true) v19 fun v20 =>
k [s0, v20] H : R))
noncomputable def r23_0 (k : KT R) : KT R := fun fr H => opn 2 fr (fun s0 s2 => 
(k [s0, (.bool false)] H : R))
noncomputable def c23 (C : CallF) (l0 : List AV) (H : AH) (k : AV → AH → R) : R := opn 1 l0 (fun x0 => (qFn (fun kr => (r23_0 (r23_1 kr)))
(fun fr H => k (sel 1 fr) H) [x0, Aes.undef] H : R))
/- refectory/refectoryref01.Digit -/
noncomputable def r24_1 (k : KT R) : KT R := fun fr H => opn 2 fr (fun s0 s2 => 
(qGeq X 5 s0 (.int .u8 48) fun v4 =>
qG v4 true (fun k => k s0 H) H fun v6 H =>
qG v4 true (fun k => qLeq X 5 v6 (.int .u8 57) fun v => k v H) H fun v7 H =>
qPick v4 v7 (.bool false) fun v8 =>
k [s0, v8] H : R))
noncomputable def r24_0 (k : KT R) : KT R := fun fr H => opn 2 fr (fun s0 s2 => 
(k [s0, (.bool false)] H : R))
noncomputable def c24 (C : CallF) (l0 : List AV) (H : AH) (k : AV → AH → R) : R := opn 1 l0 (fun x0 => (qFn (fun kr => (r24_0 (r24_1 kr)))
(fun fr H => k (sel 1 fr) H) [x0, Aes.undef] H : R))
/- refectory/refectoryref04.part -/
noncomputable def r25_1 (C : CallF) (k : KT R) : KT R := fun fr H => opn 2 fr (fun s0 s2 => 
(qRes (C 23 [s0] H) fun v4 H =>
qG v4 false (fun k => k s0 H) H fun v6 H =>
qG v4 false (fun k => qRes (C 24 [v6] H) k) H fun v7 H =>
qPick v4 (.bool true) v7 fun v8 =>
qG v8 false (fun k => k s0 H) H fun v10 H =>
qG v8 false (fun k => qEql X 5 v10 (.int .u8 46) fun v => k v H) H fun v11 H =>
qPick v8 (.bool true) v11 fun v12 =>
qG v12 false (fun k => k s0 H) H fun v14 H =>
qG v12 false (fun k => qEql X 5 v14 (.int .u8 43) fun v => k v H) H fun v15 H =>
qPick v12 (.bool true) v15 fun v16 =>
qG v16 false (fun k => k s0 H) H fun v18 H =>
qG v16 false (fun k => qEql X 5 v18 (.int .u8 45) fun v => k v H) H fun v19 H =>
qPick v16 (.bool true) v19 fun v20 =>
k [s0, v20] H : R))
noncomputable def r25_0 (k : KT R) : KT R := fun fr H => opn 2 fr (fun s0 s2 => 
(k [s0, (.bool false)] H : R))
noncomputable def c25 (C : CallF) (l0 : List AV) (H : AH) (k : AV → AH → R) : R := opn 1 l0 (fun x0 => (qFn (fun kr => (r25_0 (r25_1 C kr)))
(fun fr H => k (sel 1 fr) H) [x0, Aes.undef] H : R))
/- refectory/refectoryref02.Number -/
noncomputable def r26_25 (k : KT R) : KT R := fun fr H => opn 15 fr (fun s0 s2 s3 s4 s5 s6 s9 s19 s36 s49 s55 s75 s93 s100 s107 => 
(k [s0, s5, (.bool true), s4, s5, s6, s9, s19, s36, s49, s55, s75, s93, s100, s107] H : R))
noncomputable def r26_24 (k : KT R) : KT R := fun fr H => opn 15 fr (fun s0 s2 s3 s4 s5 s6 s9 s19 s36 s49 s55 s75 s93 s100 s107 => 
(k [s0, (.bool false), (.bool false), s4, s5, s6, s9, s19, s36, s49, s55, s75, s93, s100, s107] H : R))
noncomputable def r26_23 (k : KT R) : KT R := fun fr H => opn 15 fr (fun s0 s2 s3 s4 s5 s6 s9 s19 s36 s49 s55 s75 s93 s100 s107 => 
(qLenS s0 fun v106 =>
qNeq X 3 s4 v106 fun v107 =>
k [s0, s2, s3, s4, s5, s6, s9, s19, s36, s49, s55, s75, s93, s100, v107] H : R))
noncomputable def r26_22 (k : KT R) : KT R := fun fr H => opn 15 fr (fun s0 s2 s3 s4 s5 s6 s9 s19 s36 s49 s55 s75 s93 s100 s107 => 
(qAdd X 3 s4 s6 fun v103 =>
k [s0, s2, s3, v103, (.bool false), s6, s9, s19, s36, s49, s55, s75, s93, s100, s107] H : R))
noncomputable def r26_21 (k : KT R) : KT R := fun fr H => opn 15 fr (fun s0 s2 s3 s4 s5 s6 s9 s19 s36 s49 s55 s75 s93 s100 s107 => 
(k [s0, (.bool false), (.bool false), s4, s5, s6, s9, s19, s36, s49, s55, s75, s93, s100, s107] H : R))
noncomputable def r26_20 (k : KT R) : KT R := fun fr H => opn 15 fr (fun s0 s2 s3 s4 s5 s6 s9 s19 s36 s49 s55 s75 s93 s100 s107 => 
(qEql X 3 s6 (.int .i64 0) fun v100 =>
k [s0, s2, s3, s4, s5, s6, s9, s19, s36, s49, s55, s75, s93, v100, s107] H : R))
noncomputable def r26_19 (C : CallF) (k : KT R) : KT R := fun fr H => opn 15 fr (fun s0 s2 s3 s4 s5 s6 s9 s19 s36 s49 s55 s75 s93 s100 s107 => 
(qRes (C 40 [s0, s4] H) fun v98 H =>
k [s0, s2, s3, s4, s5, v98, s9, s19, s36, s49, s55, s75, s93, s100, s107] H : R))
noncomputable def r26_18 (k : KT R) : KT R := fun fr H => opn 15 fr (fun s0 s2 s3 s4 s5 s6 s9 s19 s36 s49 s55 s75 s93 s100 s107 => 
(qAdd X 3 s4 (.int .i64 1) fun v95 =>
k [s0, s2, s3, v95, s5, s6, s9, s19, s36, s49, s55, s75, s93, s100, s107] H : R))
noncomputable def r26_17 (k : KT R) : KT R := fun fr H => opn 15 fr (fun s0 s2 s3 s4 s5 s6 s9 s19 s36 s49 s55 s75 s93 s100 s107 => 
(qLenS s0 fun v80 =>
qLss X 3 s4 v80 fun v81 =>
qG v81 true (fun k => k s0 H) H fun v83 H =>
qG v81 true (fun k => k s4 H) H fun v84 H =>
qG v81 true (fun k => qIx v83 v84 fun v => k v H) H fun v85 H =>
qG v81 true (fun k => qEql X 5 v85 (.int .u8 43) fun v => k v H) H fun v86 H =>
qG v81 true (fun k => k v86 H) H fun v87 H =>
qG v87 false (fun k => k s0 H) H fun v88 H =>
qG v87 false (fun k => k s4 H) H fun v89 H =>
qG v87 false (fun k => qIx v88 v89 fun v => k v H) H fun v90 H =>
qG v87 false (fun k => qEql X 5 v90 (.int .u8 45) fun v => k v H) H fun v91 H =>
qG v81 true (fun k => qPick v87 (.bool true) v91 fun v => k v H) H fun v92 H =>
qPick v81 v92 (.bool false) fun v93 =>
k [s0, s2, s3, s4, s5, s6, s9, s19, s36, s49, s55, s75, v93, s100, s107] H : R))
noncomputable def r26_16 (k : KT R) : KT R := fun fr H => opn 15 fr (fun s0 s2 s3 s4 s5 s6 s9 s19 s36 s49 s55 s75 s93 s100 s107 => 
(qAdd X 3 s4 (.int .i64 1) fun v77 =>
k [s0, s2, s3, v77, s5, s6, s9, s19, s36, s49, s55, s75, s93, s100, s107] H : R))
noncomputable def r26_15 (k : KT R) : KT R := fun fr H => opn 15 fr (fun s0 s2 s3 s4 s5 s6 s9 s19 s36 s49 s55 s75 s93 s100 s107 => 
(qLenS s0 fun v62 =>
qLss X 3 s4 v62 fun v63 =>
qG v63 true (fun k => k s0 H) H fun v65 H =>
qG v63 true (fun k => k s4 H) H fun v66 H =>
qG v63 true (fun k => qIx v65 v66 fun v => k v H) H fun v67 H =>
qG v63 true (fun k => qEql X 5 v67 (.int .u8 101) fun v => k v H) H fun v68 H =>
qG v63 true (fun k => k v68 H) H fun v69 H =>
qG v69 false (fun k => k s0 H) H fun v70 H =>
qG v69 false (fun k => k s4 H) H fun v71 H =>
qG v69 false (fun k => qIx v70 v71 fun v => k v H) H fun v72 H =>
qG v69 false (fun k => qEql X 5 v72 (.int .u8 69) fun v => k v H) H fun v73 H =>
qG v63 true (fun k => qPick v69 (.bool true) v73 fun v => k v H) H fun v74 H =>
qPick v63 v74 (.bool false) fun v75 =>
k [s0, s2, s3, s4, s5, s6, s9, s19, s36, s49, s55, v75, s93, s100, s107] H : R))
noncomputable def r26_14 (k : KT R) : KT R := fun fr H => opn 15 fr (fun s0 s2 s3 s4 s5 s6 s9 s19 s36 s49 s55 s75 s93 s100 s107 => 
(qAdd X 3 s4 (.int .i64 1) fun v57 =>
qAdd X 3 v57 s6 fun v59 =>
k [s0, s2, s3, v59, (.bool false), s6, s9, s19, s36, s49, s55, s75, s93, s100, s107] H : R))
noncomputable def r26_13 (k : KT R) : KT R := fun fr H => opn 15 fr (fun s0 s2 s3 s4 s5 s6 s9 s19 s36 s49 s55 s75 s93 s100 s107 => 
(k [s0, (.bool false), (.bool false), s4, s5, s6, s9, s19, s36, s49, s55, s75, s93, s100, s107] H : R))
noncomputable def r26_12 (k : KT R) : KT R := fun fr H => opn 15 fr (fun s0 s2 s3 s4 s5 s6 s9 s19 s36 s49 s55 s75 s93 s100 s107 => 
(qEql X 3 s6 (.int .i64 0) fun v55 =>
k [s0, s2, s3, s4, s5, s6, s9, s19, s36, s49, v55, s75, s93, s100, s107] H : R))
noncomputable def r26_11 (C : CallF) (k : KT R) : KT R := fun fr H => opn 15 fr (fun s0 s2 s3 s4 s5 s6 s9 s19 s36 s49 s55 s75 s93 s100 s107 => 
(qAdd X 3 s4 (.int .i64 1) fun v52 =>
qRes (C 40 [s0, v52] H) fun v53 H =>
k [s0, s2, s3, s4, s5, v53, s9, s19, s36, s49, s55, s75, s93, s100, s107] H : R))
noncomputable def r26_10 (k : KT R) : KT R := fun fr H => opn 15 fr (fun s0 s2 s3 s4 s5 s6 s9 s19 s36 s49 s55 s75 s93 s100 s107 => 
(qLenS s0 fun v42 =>
qLss X 3 s4 v42 fun v43 =>
qG v43 true (fun k => k s0 H) H fun v45 H =>
qG v43 true (fun k => k s4 H) H fun v46 H =>
qG v43 true (fun k => qIx v45 v46 fun v => k v H) H fun v47 H =>
qG v43 true (fun k => qEql X 5 v47 (.int .u8 46) fun v => k v H) H fun v48 H =>
qPick v43 v48 (.bool false) fun v49 =>
k [s0, s2, s3, s4, s5, s6, s9, s19, s36, v49, s55, s75, s93, s100, s107] H : R))
noncomputable def r26_9 (k : KT R) : KT R := fun fr H => opn 15 fr (fun s0 s2 s3 s4 s5 s6 s9 s19 s36 s49 s55 s75 s93 s100 s107 => 
(qAdd X 3 s4 s6 fun v39 =>
k [s0, s2, s3, v39, s5, s6, s9, s19, s36, s49, s55, s75, s93, s100, s107] H : R))
noncomputable def r26_8 (k : KT R) : KT R := fun fr H => opn 15 fr (fun s0 s2 s3 s4 s5 s6 s9 s19 s36 s49 s55 s75 s93 s100 s107 => 
(k [s0, (.bool false), (.bool false), s4, s5, s6, s9, s19, s36, s49, s55, s75, s93, s100, s107] H : R))
noncomputable def r26_7 (k : KT R) : KT R := fun fr H => opn 15 fr (fun s0 s2 s3 s4 s5 s6 s9 s19 s36 s49 s55 s75 s93 s100 s107 => 
(qEql X 3 s6 (.int .i64 0) fun v26 =>
qG v26 false (fun k => k s6 H) H fun v28 H =>
qG v26 false (fun k => qGtr X 3 v28 (.int .i64 1) fun v => k v H) H fun v29 H =>
qG v26 false (fun k => k v29 H) H fun v30 H =>
qG v30 true (fun k => k s0 H) H fun v31 H =>
qG v30 true (fun k => k s4 H) H fun v32 H =>
qG v30 true (fun k => qIx v31 v32 fun v => k v H) H fun v33 H =>
qG v30 true (fun k => qEql X 5 v33 (.int .u8 48) fun v => k v H) H fun v34 H =>
qG v26 false (fun k => qPick v30 v34 (.bool false) fun v => k v H) H fun v35 H =>
qPick v26 (.bool true) v35 fun v36 =>
k [s0, s2, s3, s4, s5, s6, s9, s19, v36, s49, s55, s75, s93, s100, s107] H : R))
noncomputable def r26_6 (C : CallF) (k : KT R) : KT R := fun fr H => opn 15 fr (fun s0 s2 s3 s4 s5 s6 s9 s19 s36 s49 s55 s75 s93 s100 s107 => 
(qRes (C 40 [s0, s4] H) fun v24 H =>
k [s0, s2, s3, s4, s5, v24, s9, s19, s36, s49, s55, s75, s93, s100, s107] H : R))
noncomputable def r26_5 (k : KT R) : KT R := fun fr H => opn 15 fr (fun s0 s2 s3 s4 s5 s6 s9 s19 s36 s49 s55 s75 s93 s100 s107 => 
(qAdd X 3 s4 (.int .i64 1) fun v21 =>
k [s0, s2, s3, v21, s5, s6, s9, s19, s36, s49, s55, s75, s93, s100, s107] H : R))
noncomputable def r26_4 (k : KT R) : KT R := fun fr H => opn 15 fr (fun s0 s2 s3 s4 s5 s6 s9 s19 s36 s49 s55 s75 s93 s100 s107 => 
(qLenS s0 fun v12 =>
qLss X 3 s4 v12 fun v13 =>
qG v13 true (fun k => k s0 H) H fun v15 H =>
qG v13 true (fun k => k s4 H) H fun v16 H =>
qG v13 true (fun k => qIx v15 v16 fun v => k v H) H fun v17 H =>
qG v13 true (fun k => qEql X 5 v17 (.int .u8 45) fun v => k v H) H fun v18 H =>
qPick v13 v18 (.bool false) fun v19 =>
k [s0, s2, s3, s4, s5, s6, s9, v19, s36, s49, s55, s75, s93, s100, s107] H : R))
noncomputable def r26_3 (k : KT R) : KT R := fun fr H => opn 15 fr (fun s0 s2 s3 s4 s5 s6 s9 s19 s36 s49 s55 s75 s93 s100 s107 => 
(k [s0, (.bool false), (.bool false), s4, s5, s6, s9, s19, s36, s49, s55, s75, s93, s100, s107] H : R))
noncomputable def r26_2 (k : KT R) : KT R := fun fr H => opn 15 fr (fun s0 s2 s3 s4 s5 s6 s9 s19 s36 s49 s55 s75 s93 s100 s107 => 
(qLenS s0 fun v8 =>
qGtr X 3 v8 (.int .i64 40) fun v9 =>
k [s0, s2, s3, s4, s5, s6, v9, s19, s36, s49, s55, s75, s93, s100, s107] H : R))
noncomputable def r26_1 (k : KT R) : KT R := fun fr H => opn 15 fr (fun s0 s2 s3 s4 s5 s6 s9 s19 s36 s49 s55 s75 s93 s100 s107 => 
(k [s0, s2, s3, (.int .i64 0), (.bool true), s6, s9, s19, s36, s49, s55, s75, s93, s100, s107] H : R))
noncomputable def r26_0 (k : KT R) : KT R := fun fr H => opn 15 fr (fun s0 s2 s3 s4 s5 s6 s9 s19 s36 s49 s55 s75 s93 s100 s107 => 
(k [s0, (.bool false), (.bool false), s4, s5, s6, s9, s19, s36, s49, s55, s75, s93, s100, s107] H : R))
noncomputable def c26 (C : CallF) (l0 : List AV) (H : AH) (k : AV → AH → R) : R := opn 1 l0 (fun x0 => (qFn (fun kr => (r26_0 (r26_1 (r26_2 (qCd (sel 6) (fun _ => (r26_3 kr)) (fun k9 => k9) (r26_4 (qCd (sel 7) (fun k8 => (r26_5 k8)) (fun k8 => k8) (r26_6 C (r26_7 (qCd (sel 8) (fun _ => (r26_8 kr)) (fun k7 => k7) (r26_9 (r26_10 (qCd (sel 9) (fun k5 => (r26_11 C (r26_12 (qCd (sel 10) (fun _ => (r26_13 kr)) (fun k6 => k6) (r26_14 k5))))) (fun k5 => k5) (r26_15 (qCd (sel 11) (fun k2 => (r26_16 (r26_17 (qCd (sel 12) (fun k4 => (r26_18 k4)) (fun k4 => k4) (r26_19 C (r26_20 (qCd (sel 13) (fun _ => (r26_21 kr)) (fun k3 => k3) (r26_22 k2)))))))) (fun k2 => k2) (r26_23 (qCd (sel 14) (fun _ => (r26_24 kr)) (fun k1 => k1) (r26_25 kr))))))))))))))))))
(fun fr H => k (.tup [(sel 1 fr), (sel 2 fr)]) H) [x0, Aes.undef, Aes.undef, Aes.undef, Aes.undef, Aes.undef, Aes.undef, Aes.undef, Aes.undef, Aes.undef, Aes.undef, Aes.undef, Aes.undef, Aes.undef, Aes.undef] H : R))
/- refectory/refectoryref04.text -/
noncomputable def r27_11 (k : KT R) : KT R := fun fr H => opn 12 fr (fun s0 s1 s4 s5 s6 s7 s8 s9 s22 s53 s57 s65 => 
(qAdd X 3 s7 (.int .i64 1) fun v78 =>
k [s0, s1, s8, v78, s9, s7, s8, s9, s22, s53, s57, s65] H : R))
noncomputable def r27_10 (C : CallF) (k : KT R) : KT R := fun fr H => opn 12 fr (fun s0 s1 s4 s5 s6 s7 s8 s9 s22 s53 s57 s65 => 
(qAdd X 3 s7 (.int .i64 1) fun v71 =>
qSlc Tryz.t9.desc 0 s0 (some s1) (some v71) none fun v72 =>
qRes (C 42 [v72] H) fun v73 H =>
qExt v73 0 fun v74 =>
qExt v73 1 fun v75 =>
k [s0, s1, s4, s5, s6, s7, v74, v75, s22, s53, s57, s65] H : R))
noncomputable def r27_9 (k : KT R) : KT R := fun fr H => opn 12 fr (fun s0 s1 s4 s5 s6 s7 s8 s9 s22 s53 s57 s65 => 
(k [s0, s1, (.str []), s7, (.bool false), s7, s8, s9, s22, s53, s57, s65] H : R))
noncomputable def r27_8 (k : KT R) : KT R := fun fr H => opn 12 fr (fun s0 s1 s4 s5 s6 s7 s8 s9 s22 s53 s57 s65 => 
(qLenS s0 fun v64 =>
qGeq X 3 s7 v64 fun v65 =>
k [s0, s1, s4, s5, s6, s7, s8, s9, s22, s53, s57, v65] H : R))
noncomputable def r27_7 (k : KT R) : KT R := fun fr H => opn 12 fr (fun s0 s1 s4 s5 s6 s7 s8 s9 s22 s53 s57 s65 => 
(qAdd X 3 s7 (.int .i64 1) fun v61 =>
k [s0, s1, s4, s5, s6, v61, s8, s9, s22, s53, s57, s65] H : R))
noncomputable def r27_6 (k : KT R) : KT R := fun fr H => opn 12 fr (fun s0 s1 s4 s5 s6 s7 s8 s9 s22 s53 s57 s65 => 
(qAdd X 3 s7 (.int .i64 1) fun v59 =>
k [s0, s1, s4, s5, s6, v59, s8, s9, s22, s53, s57, s65] H : R))
noncomputable def r27_5 (k : KT R) : KT R := fun fr H => opn 12 fr (fun s0 s1 s4 s5 s6 s7 s8 s9 s22 s53 s57 s65 => 
(qIx s0 s7 fun v56 =>
qEql X 5 v56 (.int .u8 92) fun v57 =>
k [s0, s1, s4, s5, s6, s7, s8, s9, s22, s53, v57, s65] H : R))
noncomputable def r27_4 (k : KT R) : KT R := fun fr H => opn 12 fr (fun s0 s1 s4 s5 s6 s7 s8 s9 s22 s53 s57 s65 => 
(qLenS s0 fun v34 =>
qLss X 3 s7 v34 fun v35 =>
qG v35 true (fun k => k s0 H) H fun v37 H =>
qG v35 true (fun k => k s7 H) H fun v38 H =>
qG v35 true (fun k => qIx v37 v38 fun v => k v H) H fun v39 H =>
qG v35 true (fun k => qNeq X 5 v39 (.int .u8 34) fun v => k v H) H fun v40 H =>
qPick v35 v40 (.bool false) fun v41 =>
qG v41 true (fun k => k s0 H) H fun v43 H =>
qG v41 true (fun k => k s7 H) H fun v44 H =>
qG v41 true (fun k => qIx v43 v44 fun v => k v H) H fun v45 H =>
qG v41 true (fun k => qNeq X 5 v45 (.int .u8 10) fun v => k v H) H fun v46 H =>
qPick v41 v46 (.bool false) fun v47 =>
qG v47 true (fun k => k s0 H) H fun v49 H =>
qG v47 true (fun k => k s7 H) H fun v50 H =>
qG v47 true (fun k => qIx v49 v50 fun v => k v H) H fun v51 H =>
qG v47 true (fun k => qNeq X 5 v51 (.int .u8 13) fun v => k v H) H fun v52 H =>
qPick v47 v52 (.bool false) fun v53 =>
k [s0, s1, s4, s5, s6, s7, s8, s9, s22, v53, s57, s65] H : R))
noncomputable def l27_6 (k2 : KT R) : KT R → KT R := fun k3 => (r27_4 (qCd (sel 9) (fun k6 => k6) (fun _ => k2) (qBl (fun k4 => (r27_5 (qCd (sel 10) (fun k5 => (r27_6 k5)) (fun k5 => k5) (r27_7 k4)))) k3)))
noncomputable def r27_3 (k : KT R) : KT R := fun fr H => opn 12 fr (fun s0 s1 s4 s5 s6 s7 s8 s9 s22 s53 s57 s65 => 
(qAdd X 3 s1 (.int .i64 1) fun v31 =>
k [s0, s1, s4, s5, s6, v31, s8, s9, s22, s53, s57, s65] H : R))
noncomputable def r27_2 (C : CallF) (k : KT R) : KT R := fun fr H => opn 12 fr (fun s0 s1 s4 s5 s6 s7 s8 s9 s22 s53 s57 s65 => 
(qAdd X 3 s1 (.int .i64 3) fun v25 =>
qRes (C 41 [s0, v25] H) fun v26 H =>
qExt v26 0 fun v27 =>
qExt v26 1 fun v28 =>
qExt v26 2 fun v29 =>
k [s0, s1, v27, v28, v29, s7, s8, s9, s22, s53, s57, s65] H : R))
noncomputable def r27_1 (k : KT R) : KT R := fun fr H => opn 12 fr (fun s0 s1 s4 s5 s6 s7 s8 s9 s22 s53 s57 s65 => 
(qLenS s0 fun v11 =>
qSub X 3 v11 s1 fun v13 =>
qGeq X 3 v13 (.int .i64 3) fun v14 =>
qG v14 true (fun k => k s0 H) H fun v16 H =>
qG v14 true (fun k => k s1 H) H fun v17 H =>
qG v14 true (fun k => k s1 H) H fun v18 H =>
qG v14 true (fun k => qAdd X 3 v18 (.int .i64 3) fun v => k v H) H fun v19 H =>
qG v14 true (fun k => qSlc Tryz.t9.desc 0 v16 (some v17) (some v19) none fun v => k v H) H fun v20 H =>
qG v14 true (fun k => qEql X 9 v20 (.str [34,34,34]) fun v => k v H) H fun v21 H =>
qPick v14 v21 (.bool false) fun v22 =>
k [s0, s1, s4, s5, s6, s7, s8, s9, v22, s53, s57, s65] H : R))
noncomputable def r27_0 (k : KT R) : KT R := fun fr H => opn 12 fr (fun s0 s1 s4 s5 s6 s7 s8 s9 s22 s53 s57 s65 => 
(k [s0, s1, (.str []), (.int .i64 0), (.bool false), s7, s8, s9, s22, s53, s57, s65] H : R))
noncomputable def c27 (C : CallF) (l0 : List AV) (H : AH) (k : AV → AH → R) : R := opn 2 l0 (fun x0 x1 => (qFn (fun kr => (r27_0 (r27_1 (qCd (sel 8) (fun _ => (r27_2 C kr)) (fun k7 => k7) (r27_3 (qBl (fun k2 => (qLoop (l27_6 k2))) (r27_8 (qCd (sel 11) (fun _ => (r27_9 kr)) (fun k1 => k1) (r27_10 C (r27_11 kr))))))))))
(fun fr H => k (.tup [(sel 2 fr), (sel 3 fr), (sel 4 fr)]) H) [x0, x1, Aes.undef, Aes.undef, Aes.undef, Aes.undef, Aes.undef, Aes.undef, Aes.undef, Aes.undef, Aes.undef, Aes.undef] H : R))
/- strings.TrimPrefix -/
noncomputable def r29_1 (C : CallF) (k : KT R) : KT R := fun fr H => opn 3 fr (fun s0 s1 s4 => 
(qRes (C 43 [s0, s1] H) fun v7 H =>
k [s0, s1, v7] H : R))
noncomputable def r29_0 (k : KT R) : KT R := fun fr H => opn 3 fr (fun s0 s1 s4 => 
(k [s0, s1, (.str [])] H : R))
noncomputable def c29 (C : CallF) (l0 : List AV) (H : AH) (k : AV → AH → R) : R := opn 2 l0 (fun x0 x1 => (qFn (fun kr => (r29_0 (r29_1 C kr)))
(fun fr H => k (sel 2 fr) H) [x0, x1, Aes.undef] H : R))
/- refectory/jval.digits -/
noncomputable def r30_1 (C : CallF) (k : KT R) : KT R := fun fr H => opn 2 fr (fun s0 s2 => 
(qLenS s0 fun v4 =>
qRes (C 44 [s0, (.str [48,49,50,51,52,53,54,55,56,57])] H) fun v6 H =>
qLenS v6 fun v7 =>
qSub X 3 v4 v7 fun v8 =>
k [s0, v8] H : R))
noncomputable def r30_0 (k : KT R) : KT R := fun fr H => opn 2 fr (fun s0 s2 => 
(k [s0, (.int .i64 0)] H : R))
noncomputable def c30 (C : CallF) (l0 : List AV) (H : AH) (k : AV → AH → R) : R := opn 1 l0 (fun x0 => (qFn (fun kr => (r30_0 (r30_1 C kr)))
(fun fr H => k (sel 1 fr) H) [x0, Aes.undef] H : R))
/- strings.CutPrefix -/
noncomputable def r31_1 (C : CallF) (k : KT R) : KT R := fun fr H => opn 4 fr (fun s0 s1 s4 s5 => 
(qRes (C 45 [s0, s1] H) fun v8 H =>
qExt v8 0 fun v9 =>
qExt v8 1 fun v10 =>
k [s0, s1, v9, v10] H : R))
noncomputable def r31_0 (k : KT R) : KT R := fun fr H => opn 4 fr (fun s0 s1 s4 s5 => 
(k [s0, s1, (.str []), (.bool false)] H : R))
noncomputable def c31 (C : CallF) (l0 : List AV) (H : AH) (k : AV → AH → R) : R := opn 2 l0 (fun x0 x1 => (qFn (fun kr => (r31_0 (r31_1 C kr)))
(fun fr H => k (.tup [(sel 2 fr), (sel 3 fr)]) H) [x0, x1, Aes.undef, Aes.undef] H : R))
/- internal/stringslite.HasPrefix -/
noncomputable def r32_1 (k : KT R) : KT R := fun fr H => opn 3 fr (fun s0 s1 s4 => 
(qLenS s0 fun v6 =>
qLenS s1 fun v8 =>
qGeq X 3 v6 v8 fun v9 =>
qG v9 true (fun k => k s0 H) H fun v11 H =>
qG v9 true (fun k => k s1 H) H fun v12 H =>
qG v9 true (fun k => qLenS v12 fun v => k v H) H fun v13 H =>
qG v9 true (fun k => qSlc Tryz.t9.desc 0 v11 none (some v13) none fun v => k v H) H fun v14 H =>
qG v9 true (fun k => k s1 H) H fun v15 H =>
qG v9 true (fun k => qEql X 9 v14 v15 fun v => k v H) H fun v16 H =>
qPick v9 v16 (.bool false) fun v17 =>
k [s0, s1, v17] H : R))
noncomputable def r32_0 (k : KT R) : KT R := fun fr H => opn 3 fr (fun s0 s1 s4 => 
(k [s0, s1, (.bool false)] H : R))
noncomputable def c32 (C : CallF) (l0 : List AV) (H : AH) (k : AV → AH → R) : R := opn 2 l0 (fun x0 x1 => (qFn (fun kr => (r32_0 (r32_1 kr)))
(fun fr H => k (sel 2 fr) H) [x0, x1, Aes.undef] H : R))
/- (*strings.Builder).WriteString -/
noncomputable def r33_3 (k : KT R) : KT R := fun fr H => opn 4 fr (fun s0 s1 s4 s5 => 
(qLenS s1 fun v18 =>
k [s0, s1, v18, (.nilif)] H : R))
noncomputable def r33_2 (k : KT R) : KT R := fun fr H => opn 4 fr (fun s0 s1 s4 s5 => 
(qNc s0 fun v10 =>
qFa 1 v10 fun v11 =>
qLd v11 H fun v12 =>
qApp 1 1 v12 s1 true (some 5) H fun v14 H =>
qNc s0 fun v15 =>
qFa 1 v15 fun v16 =>
qSt 1 v16 v14 H fun _ H =>
k [s0, s1, s4, s5] H : R))
noncomputable def r33_1 (C : CallF) (k : KT R) : KT R := fun fr H => opn 4 fr (fun s0 s1 s4 s5 => 
(qRes (C 46 [s0] H) fun v7 H =>
k [s0, s1, s4, s5] H : R))
noncomputable def r33_0 (k : KT R) : KT R := fun fr H => opn 4 fr (fun s0 s1 s4 s5 => 
(k [s0, s1, (.int .i64 0), (.nilif)] H : R))
noncomputable def c33 (C : CallF) (l0 : List AV) (H : AH) (k : AV → AH → R) : R := opn 2 l0 (fun x0 x1 => (qFn (fun kr => (r33_0 (r33_1 C (r33_2 (r33_3 kr)))))
(fun fr H => k (.tup [(sel 2 fr), (sel 3 fr)]) H) [x0, x1, Aes.undef, Aes.undef] H : R))
/- refectory/lex.raw -/
noncomputable def r34_6 (C : CallF) (k : KT R) : KT R := fun fr H => opn 7 fr (fun s0 s2 s4 s6 s7 s8 s23 => 
(qRes (C 47 [s0] H) fun v25 H =>
k [s0, v25, s4, s6, s7, s8, s23] H : R))
noncomputable def r34_5 (k : KT R) : KT R := fun fr H => opn 7 fr (fun s0 s2 s4 s6 s7 s8 s23 => 
(k [s0, (.bool false), s4, s6, s7, s8, s23] H : R))
noncomputable def r34_4 (k : KT R) : KT R := fun fr H => opn 7 fr (fun s0 s2 s4 s6 s7 s8 s23 => 
(qLss X 21 s4 (.int .i32 32) fun v11 =>
qG v11 true (fun k => k s4 H) H fun v13 H =>
qG v11 true (fun k => qNeq X 21 v13 (.int .i32 9) fun v => k v H) H fun v14 H =>
qPick v11 v14 (.bool false) fun v15 =>
qG v15 true (fun k => k s4 H) H fun v17 H =>
qG v15 true (fun k => qNeq X 21 v17 (.int .i32 10) fun v => k v H) H fun v18 H =>
qPick v15 v18 (.bool false) fun v19 =>
qG v19 true (fun k => k s4 H) H fun v21 H =>
qG v19 true (fun k => qNeq X 21 v21 (.int .i32 13) fun v => k v H) H fun v22 H =>
qPick v19 v22 (.bool false) fun v23 =>
k [s0, s2, s4, s6, s7, s8, v23] H : R))
noncomputable def r34_3 (k : KT R) : KT R := fun fr H => opn 7 fr (fun s0 s2 s4 s6 s7 s8 s23 => 
(qExt s7 2 fun v9 =>
k [s0, s2, v9, s6, s7, s8, s23] H : R))
noncomputable def r34_2 (k : KT R) : KT R := fun fr H => opn 7 fr (fun s0 s2 s4 s6 s7 s8 s23 => 
(qNext s6 H fun v7 H =>
qExt v7 0 fun v8 =>
k [s0, s2, s4, s6, v7, v8, s23] H : R))
noncomputable def l34_5 (k1 : KT R) (kr : KT R) : KT R → KT R := fun k2 => (r34_2 (qCd (sel 5) (fun k5 => k5) (fun _ => k1) (qBl (fun k3 => (r34_3 (r34_4 (qCd (sel 6) (fun _ => (r34_5 kr)) (fun k4 => k4) k3)))) k2)))
noncomputable def r34_1 (k : KT R) : KT R := fun fr H => opn 7 fr (fun s0 s2 s4 s6 s7 s8 s23 => 
(qRange s0 H fun v6 H =>
k [s0, s2, s4, v6, s7, s8, s23] H : R))
noncomputable def r34_0 (k : KT R) : KT R := fun fr H => opn 7 fr (fun s0 s2 s4 s6 s7 s8 s23 => 
(k [s0, (.bool false), s4, s6, s7, s8, s23] H : R))
noncomputable def c34 (C : CallF) (l0 : List AV) (H : AH) (k : AV → AH → R) : R := opn 1 l0 (fun x0 => (qFn (fun kr => (r34_0 (r34_1 (qBl (fun k1 => (qLoop (l34_5 k1 kr))) (r34_6 C kr)))))
(fun fr H => k (sel 1 fr) H) [x0, Aes.undef, Aes.undef, Aes.undef, Aes.undef, Aes.undef, Aes.undef] H : R))
/- refectory/runes.Block -/
noncomputable def r36_20 (C : CallF) (k : KT R) : KT R := fun fr H => opn 18 fr (fun s0 s2 s3 s4 s6 s7 s8 s9 s15 s16 s17 s18 s35 s40 s41 s42 s73 s88 => 
(qRes (C 52 [s3, (.str [10])] H) fun v95 H =>
k [s0, v95, s3, s4, s6, s7, s8, s9, s15, s16, s17, s18, s35, s40, s41, s42, s73, s88] H : R))
noncomputable def r36_19 (k : KT R) : KT R := fun fr H => opn 18 fr (fun s0 s2 s3 s4 s6 s7 s8 s9 s15 s16 s17 s18 s35 s40 s41 s42 s73 s88 => 
(qLenL s3 fun v91 =>
qSub X 3 v91 (.int .i64 1) fun v92 =>
qSlc Tryz.t71.desc 1 s3 none (some v92) none fun v93 =>
k [s0, s2, v93, s4, s6, s7, s8, s9, s15, s16, s17, s18, s35, s40, s41, s42, s73, s88] H : R))
noncomputable def r36_18 (C : CallF) (k : KT R) : KT R := fun fr H => opn 18 fr (fun s0 s2 s3 s4 s6 s7 s8 s9 s15 s16 s17 s18 s35 s40 s41 s42 s73 s88 => 
(qLenL s3 fun v77 =>
qGtr X 3 v77 (.int .i64 0) fun v78 =>
qG v78 true (fun k => k s9 H) H fun v80 H =>
qG v78 true (fun k => k s3 H) H fun v81 H =>
qG v78 true (fun k => k s3 H) H fun v82 H =>
qG v78 true (fun k => qLenL v82 fun v => k v H) H fun v83 H =>
qG v78 true (fun k => qSub X 3 v83 (.int .i64 1) fun v => k v H) H fun v84 H =>
qG v78 true (fun k => qIa 1 v81 v84 fun v => k v H) H fun v85 H =>
qG v78 true (fun k => qLd v85 H fun v => k v H) H fun v86 H =>
qG v78 true (fun k => qCallV C v80 [v86] H k) H fun v87 H =>
qPick v78 v87 (.bool false) fun v88 =>
k [s0, s2, s3, s4, s6, s7, s8, s9, s15, s16, s17, s18, s35, s40, s41, s42, s73, v88] H : R))
noncomputable def l36_4 (C : CallF) (k1 : KT R) : KT R → KT R := fun k2 => (r36_18 C (qCd (sel 17) (fun k4 => k4) (fun _ => k1) (qBl (fun k3 => (r36_19 k3)) k2)))
noncomputable def r36_17 (k : KT R) : KT R := fun fr H => opn 18 fr (fun s0 s2 s3 s4 s6 s7 s8 s9 s15 s16 s17 s18 s35 s40 s41 s42 s73 s88 => 
(qSlc Tryz.t71.desc 1 s3 (some (.int .i64 1)) none none fun v75 =>
k [s0, s2, v75, s4, s6, s7, s8, s9, s15, s16, s17, s18, s35, s40, s41, s42, s73, s88] H : R))
noncomputable def r36_16 (C : CallF) (k : KT R) : KT R := fun fr H => opn 18 fr (fun s0 s2 s3 s4 s6 s7 s8 s9 s15 s16 s17 s18 s35 s40 s41 s42 s73 s88 => 
(qLenL s3 fun v65 =>
qGtr X 3 v65 (.int .i64 0) fun v66 =>
qG v66 true (fun k => k s9 H) H fun v68 H =>
qG v66 true (fun k => k s3 H) H fun v69 H =>
qG v66 true (fun k => qIa 1 v69 (.int .i64 0) fun v => k v H) H fun v70 H =>
qG v66 true (fun k => qLd v70 H fun v => k v H) H fun v71 H =>
qG v66 true (fun k => qCallV C v68 [v71] H k) H fun v72 H =>
qPick v66 v72 (.bool false) fun v73 =>
k [s0, s2, s3, s4, s6, s7, s8, s9, s15, s16, s17, s18, s35, s40, s41, s42, v73, s88] H : R))
noncomputable def l36_8 (C : CallF) (k5 : KT R) : KT R → KT R := fun k6 => (r36_16 C (qCd (sel 16) (fun k8 => k8) (fun _ => k5) (qBl (fun k7 => (r36_17 k7)) k6)))
noncomputable def r36_15 (k : KT R) : KT R := fun fr H => opn 18 fr (fun s0 s2 s3 s4 s6 s7 s8 s9 s15 s16 s17 s18 s35 s40 s41 s42 s73 s88 => 
(k [s0, s2, s3, s4, s6, s7, s8, (.fn (.func 51) [] []), s15, s16, s17, s18, s35, s40, s41, s42, s73, s88] H : R))
noncomputable def r36_14 (k : KT R) : KT R := fun fr H => opn 18 fr (fun s0 s2 s3 s4 s6 s7 s8 s9 s15 s16 s17 s18 s35 s40 s41 s42 s73 s88 => 
(qAdd X 3 s41 (.int .i64 1) fun v63 =>
k [s0, s2, s3, s4, s6, s7, s8, s9, s15, s16, s17, s18, s35, s40, v63, s42, s73, s88] H : R))
noncomputable def r36_13 (C : CallF) (k : KT R) : KT R := fun fr H => opn 18 fr (fun s0 s2 s3 s4 s6 s7 s8 s9 s15 s16 s17 s18 s35 s40 s41 s42 s73 s88 => 
(qAdd X 3 (.int .i64 1) s8 fun v46 =>
qAdd X 3 (.int .i64 1) s8 fun v49 =>
qIa 1 s3 v49 fun v50 =>
qLd v50 H fun v51 =>
qO (foldO max2 s4 [(.int .i64 0)]) fun v53 =>
qAdd X 3 (.int .i64 1) s8 fun v56 =>
qIa 1 s3 v56 fun v57 =>
qLd v57 H fun v58 =>
qRes (C 50 [v58] H) fun v59 H =>
qLd v50 H fun w => qSame v51 w (qO (foldO min2 v53 [v59]) fun v60 =>
qSlc Tryz.t9.desc 0 v51 (some v60) none none fun v61 =>
qIa 1 s3 v46 fun v62 =>
qSt 1 v62 v61 H fun _ H =>
k [s0, s2, s3, s4, s6, s7, s8, s9, s15, s16, s17, s18, s35, s40, s41, s42, s73, s88] H) : R))
noncomputable def r36_12 (k : KT R) : KT R := fun fr H => opn 18 fr (fun s0 s2 s3 s4 s6 s7 s8 s9 s15 s16 s17 s18 s35 s40 s41 s42 s73 s88 => 
(k [s0, s2, s3, s4, s6, s7, s41, s9, s15, s16, s17, s18, s35, s40, s41, s42, s73, s88] H : R))
noncomputable def r36_11 (k : KT R) : KT R := fun fr H => opn 18 fr (fun s0 s2 s3 s4 s6 s7 s8 s9 s15 s16 s17 s18 s35 s40 s41 s42 s73 s88 => 
(qLss X 3 s41 s40 fun v42 =>
k [s0, s2, s3, s4, s6, s7, s8, s9, s15, s16, s17, s18, s35, s40, s41, v42, s73, s88] H : R))
noncomputable def l36_12 (C : CallF) (k9 : KT R) : KT R → KT R := fun k10 => (r36_11 (qCd (sel 15) (fun k12 => k12) (fun _ => k9) (qBl (fun k11 => (r36_12 (r36_13 C k11))) (r36_14 k10))))
noncomputable def r36_10 (k : KT R) : KT R := fun fr H => opn 18 fr (fun s0 s2 s3 s4 s6 s7 s8 s9 s15 s16 s17 s18 s35 s40 s41 s42 s73 s88 => 
(qSlc Tryz.t71.desc 1 s3 (some (.int .i64 1)) none none fun v39 =>
qLenL v39 fun v40 =>
k [s0, s2, s3, s4, s6, s7, s8, s9, s15, s16, s17, s18, s35, v40, (.int .i64 0), s42, s73, s88] H : R))
noncomputable def r36_9 (k : KT R) : KT R := fun fr H => opn 18 fr (fun s0 s2 s3 s4 s6 s7 s8 s9 s15 s16 s17 s18 s35 s40 s41 s42 s73 s88 => 
(qAdd X 3 s17 (.int .i64 1) fun v37 =>
k [s0, s2, s3, s4, s6, s7, s8, s9, s15, s16, v37, s18, s35, s40, s41, s42, s73, s88] H : R))
noncomputable def r36_8 (k : KT R) : KT R := fun fr H => opn 18 fr (fun s0 s2 s3 s4 s6 s7 s8 s9 s15 s16 s17 s18 s35 s40 s41 s42 s73 s88 => 
(k [s0, s2, s3, s7, s6, s7, s8, s9, s15, s16, s17, s18, s35, s40, s41, s42, s73, s88] H : R))
noncomputable def r36_7 (k : KT R) : KT R := fun fr H => opn 18 fr (fun s0 s2 s3 s4 s6 s7 s8 s9 s15 s16 s17 s18 s35 s40 s41 s42 s73 s88 => 
(qLenS s6 fun v25 =>
qLss X 3 s7 v25 fun v26 =>
qG v26 true (fun k => k s4 H) H fun v28 H =>
qG v26 true (fun k => qLss X 3 v28 (.int .i64 0) fun v => k v H) H fun v29 H =>
qG v26 true (fun k => k v29 H) H fun v30 H =>
qG v30 false (fun k => k s7 H) H fun v31 H =>
qG v30 false (fun k => k s4 H) H fun v32 H =>
qG v30 false (fun k => qLss X 3 v31 v32 fun v => k v H) H fun v33 H =>
qG v26 true (fun k => qPick v30 (.bool true) v33 fun v => k v H) H fun v34 H =>
qPick v26 v34 (.bool false) fun v35 =>
k [s0, s2, s3, s4, s6, s7, s8, s9, s15, s16, s17, s18, v35, s40, s41, s42, s73, s88] H : R))
noncomputable def r36_6 (C : CallF) (k : KT R) : KT R := fun fr H => opn 18 fr (fun s0 s2 s3 s4 s6 s7 s8 s9 s15 s16 s17 s18 s35 s40 s41 s42 s73 s88 => 
(qRes (C 50 [s6] H) fun v22 H =>
k [s0, s2, s3, s4, s6, v22, s8, s9, s15, s16, s17, s18, s35, s40, s41, s42, s73, s88] H : R))
noncomputable def r36_5 (k : KT R) : KT R := fun fr H => opn 18 fr (fun s0 s2 s3 s4 s6 s7 s8 s9 s15 s16 s17 s18 s35 s40 s41 s42 s73 s88 => 
(qIa 1 s15 s17 fun v19 =>
qLd v19 H fun v20 =>
k [s0, s2, s3, s4, v20, s7, s8, s9, s15, s16, s17, s18, s35, s40, s41, s42, s73, s88] H : R))
noncomputable def r36_4 (k : KT R) : KT R := fun fr H => opn 18 fr (fun s0 s2 s3 s4 s6 s7 s8 s9 s15 s16 s17 s18 s35 s40 s41 s42 s73 s88 => 
(qLss X 3 s17 s16 fun v18 =>
k [s0, s2, s3, s4, s6, s7, s8, s9, s15, s16, s17, v18, s35, s40, s41, s42, s73, s88] H : R))
noncomputable def l36_17 (C : CallF) (k13 : KT R) : KT R → KT R := fun k14 => (r36_4 (qCd (sel 11) (fun k17 => k17) (fun _ => k13) (qBl (fun k15 => (r36_5 (r36_6 C (r36_7 (qCd (sel 12) (fun k16 => (r36_8 k16)) (fun k16 => k16) k15))))) (r36_9 k14))))
noncomputable def r36_3 (k : KT R) : KT R := fun fr H => opn 18 fr (fun s0 s2 s3 s4 s6 s7 s8 s9 s15 s16 s17 s18 s35 s40 s41 s42 s73 s88 => 
(qSlc Tryz.t71.desc 1 s3 (some (.int .i64 1)) none none fun v15 =>
qLenL v15 fun v16 =>
k [s0, s2, s3, s4, s6, s7, s8, s9, v15, v16, (.int .i64 0), s18, s35, s40, s41, s42, s73, s88] H : R))
noncomputable def r36_2 (k : KT R) : KT R := fun fr H => opn 18 fr (fun s0 s2 s3 s4 s6 s7 s8 s9 s15 s16 s17 s18 s35 s40 s41 s42 s73 s88 => 
(k [s0, s2, s3, (.int .i64 (-1)), s6, s7, s8, s9, s15, s16, s17, s18, s35, s40, s41, s42, s73, s88] H : R))
noncomputable def r36_1 (C : CallF) (k : KT R) : KT R := fun fr H => opn 18 fr (fun s0 s2 s3 s4 s6 s7 s8 s9 s15 s16 s17 s18 s35 s40 s41 s42 s73 s88 => 
(qRes (C 49 [s0, (.str [13,10]), (.str [10])] H) fun v11 H =>
qRes (C 49 [v11, (.str [13]), (.str [10])] H) fun v12 H =>
qRes (C 48 [v12, (.str [10])] H) fun v13 H =>
k [s0, s2, v13, s4, s6, s7, s8, s9, s15, s16, s17, s18, s35, s40, s41, s42, s73, s88] H : R))
noncomputable def r36_0 (k : KT R) : KT R := fun fr H => opn 18 fr (fun s0 s2 s3 s4 s6 s7 s8 s9 s15 s16 s17 s18 s35 s40 s41 s42 s73 s88 => 
(k [s0, (.str []), s3, s4, s6, s7, s8, s9, s15, s16, s17, s18, s35, s40, s41, s42, s73, s88] H : R))
noncomputable def c36 (C : CallF) (l0 : List AV) (H : AH) (k : AV → AH → R) : R := opn 1 l0 (fun x0 => (qFn (fun kr => (r36_0 (r36_1 C (r36_2 (r36_3 (qBl (fun k13 => (qLoop (l36_17 C k13))) (r36_10 (qBl (fun k9 => (qLoop (l36_12 C k9))) (r36_15 (qBl (fun k5 => (qLoop (l36_8 C k5))) (qBl (fun k1 => (qLoop (l36_4 C k1))) (r36_20 C kr))))))))))))
(fun fr H => k (sel 1 fr) H) [x0, Aes.undef, Aes.undef, Aes.undef, Aes.undef, Aes.undef, Aes.undef, Aes.undef, Aes.undef, Aes.undef, Aes.undef, Aes.undef, Aes.undef, Aes.undef, Aes.undef, Aes.undef, Aes.undef, Aes.undef] H : R))
/- (*strings.Builder).WriteByte -/
noncomputable def r37_3 (k : KT R) : KT R := fun fr H => opn 3 fr (fun s0 s1 s4 => 
(k [s0, s1, (.nilif)] H : R))
noncomputable def r37_2 (k : KT R) : KT R := fun fr H => opn 3 fr (fun s0 s1 s4 => 
(qNc s0 fun v9 =>
qFa 1 v9 fun v10 =>
qLd v10 H fun v11 =>
qRows z5 1 [(0, s1)] fun v13 =>
qApp 1 1 v11 v13 true (some 5) H fun v14 H =>
qNc s0 fun v15 =>
qFa 1 v15 fun v16 =>
qSt 1 v16 v14 H fun _ H =>
k [s0, s1, s4] H : R))
noncomputable def r37_1 (C : CallF) (k : KT R) : KT R := fun fr H => opn 3 fr (fun s0 s1 s4 => 
(qRes (C 46 [s0] H) fun v6 H =>
k [s0, s1, s4] H : R))
noncomputable def r37_0 (k : KT R) : KT R := fun fr H => opn 3 fr (fun s0 s1 s4 => 
(k [s0, s1, (.nilif)] H : R))
noncomputable def c37 (C : CallF) (l0 : List AV) (H : AH) (k : AV → AH → R) : R := opn 2 l0 (fun x0 x1 => (qFn (fun kr => (r37_0 (r37_1 C (r37_2 (r37_3 kr)))))
(fun fr H => k (sel 2 fr) H) [x0, x1, Aes.undef] H : R))
/- strings.ContainsAny -/
noncomputable def r38_1 (C : CallF) (k : KT R) : KT R := fun fr H => opn 3 fr (fun s0 s1 s4 => 
(qRes (C 53 [s0, s1] H) fun v7 H =>
qGeq X 3 v7 (.int .i64 0) fun v8 =>
k [s0, s1, v8] H : R))
noncomputable def r38_0 (k : KT R) : KT R := fun fr H => opn 3 fr (fun s0 s1 s4 => 
(k [s0, s1, (.bool false)] H : R))
noncomputable def c38 (C : CallF) (l0 : List AV) (H : AH) (k : AV → AH → R) : R := opn 2 l0 (fun x0 x1 => (qFn (fun kr => (r38_0 (r38_1 C kr)))
(fun fr H => k (sel 2 fr) H) [x0, x1, Aes.undef] H : R))
/- refectory/runes.Unquote -/
noncomputable def r39_27 (C : CallF) (k : KT R) : KT R := fun fr H => opn 21 fr (fun s0 s2 s3 s4 s5 s6 s7 s8 s9 s10 s31 s38 s39 s40 s49 s55 s59 s66 s71 s77 s92 => 
(qRes (C 35 [s4] H) fun v99 H =>
k [s0, v99, (.bool true), s4, s5, s6, s7, s8, s9, s10, s31, s38, s39, s40, s49, s55, s59, s66, s71, s77, s92] H : R))
noncomputable def r39_16 (k : KT R) : KT R := fun fr H => opn 21 fr (fun s0 s2 s3 s4 s5 s6 s7 s8 s9 s10 s31 s38 s39 s40 s49 s55 s59 s66 s71 s77 s92 => 
(k [s0, (.str []), (.bool false), s4, s5, s6, s7, s8, s9, s10, s31, s38, s39, s40, s49, s55, s59, s66, s71, s77, s92] H : R))
noncomputable def r39_18 (C : CallF) (k : KT R) : KT R := fun fr H => opn 21 fr (fun s0 s2 s3 s4 s5 s6 s7 s8 s9 s10 s31 s38 s39 s40 s49 s55 s59 s66 s71 s77 s92 => 
(qRes (C 54 [s4, s7] H) fun v70 H =>
k [s0, s2, s3, s4, s5, s6, s7, s8, s9, s10, s31, s38, s39, s40, s49, s55, s59, s66, s71, s77, s92] H : R))
noncomputable def r39_20 (k : KT R) : KT R := fun fr H => opn 21 fr (fun s0 s2 s3 s4 s5 s6 s7 s8 s9 s10 s31 s38 s39 s40 s49 s55 s59 s66 s71 s77 s92 => 
(k [s0, (.str []), (.bool false), s4, s5, s6, s7, s8, s9, s10, s31, s38, s39, s40, s49, s55, s59, s66, s71, s77, s92] H : R))
noncomputable def r39_26 (k : KT R) : KT R := fun fr H => opn 21 fr (fun s0 s2 s3 s4 s5 s6 s7 s8 s9 s10 s31 s38 s39 s40 s49 s55 s59 s66 s71 s77 s92 => 
(qAdd X 3 s6 (.int .i64 2) fun v96 =>
qAdd X 3 v96 s9 fun v98 =>
k [s0, s2, s3, s4, v98, s6, s7, s8, s9, s10, s31, s38, s39, s40, s49, s55, s59, s66, s71, s77, s92] H : R))
noncomputable def r39_25 (C : CallF) (k : KT R) : KT R := fun fr H => opn 21 fr (fun s0 s2 s3 s4 s5 s6 s7 s8 s9 s10 s31 s38 s39 s40 s49 s55 s59 s66 s71 s77 s92 => 
(qRes (C 54 [s4, s8] H) fun v94 H =>
k [s0, s2, s3, s4, s5, s6, s7, s8, s9, s10, s31, s38, s39, s40, s49, s55, s59, s66, s71, s77, s92] H : R))
noncomputable def r39_24 (k : KT R) : KT R := fun fr H => opn 21 fr (fun s0 s2 s3 s4 s5 s6 s7 s8 s9 s10 s31 s38 s39 s40 s49 s55 s59 s66 s71 s77 s92 => 
(k [s0, (.str []), (.bool false), s4, s5, s6, s7, s8, s9, s10, s31, s38, s39, s40, s49, s55, s59, s66, s71, s77, s92] H : R))
noncomputable def r39_23 (k : KT R) : KT R := fun fr H => opn 21 fr (fun s0 s2 s3 s4 s5 s6 s7 s8 s9 s10 s31 s38 s39 s40 s49 s55 s59 s66 s71 s77 s92 => 
(qLss X 21 s8 (.int .i32 0) fun v92 =>
k [s0, s2, s3, s4, s5, s6, s7, s8, s9, s10, s31, s38, s39, s40, s49, s55, s59, s66, s71, s77, v92] H : R))
noncomputable def r39_22 (C : CallF) (k : KT R) : KT R := fun fr H => opn 21 fr (fun s0 s2 s3 s4 s5 s6 s7 s8 s9 s10 s31 s38 s39 s40 s49 s55 s59 s66 s71 s77 s92 => 
(qAdd X 3 s6 (.int .i64 2) fun v86 =>
qSlc Tryz.t9.desc 0 s0 (some v86) none none fun v87 =>
qRes (C 55 [v87] H) fun v88 H =>
qExt v88 0 fun v89 =>
qExt v88 1 fun v90 =>
k [s0, s2, s3, s4, s5, s6, s7, v89, v90, s10, s31, s38, s39, s40, s49, s55, s59, s66, s71, s77, s92] H : R))
noncomputable def r39_13 (k : KT R) : KT R := fun fr H => opn 21 fr (fun s0 s2 s3 s4 s5 s6 s7 s8 s9 s10 s31 s38 s39 s40 s49 s55 s59 s66 s71 s77 s92 => 
(qAdd X 3 s6 (.int .i64 2) fun v54 =>
k [s0, s2, s3, s4, v54, s6, s7, s8, s9, s10, s31, s38, s39, s40, s49, s55, s59, s66, s71, s77, s92] H : R))
noncomputable def r39_12 (C : CallF) (k : KT R) : KT R := fun fr H => opn 21 fr (fun s0 s2 s3 s4 s5 s6 s7 s8 s9 s10 s31 s38 s39 s40 s49 s55 s59 s66 s71 s77 s92 => 
(qIx (.str [34,92,47,8,12,10,13,9]) s10 fun v51 =>
qRes (C 37 [s4, v51] H) fun v52 H =>
k [s0, s2, s3, s4, s5, s6, s7, s8, s9, s10, s31, s38, s39, s40, s49, s55, s59, s66, s71, s77, s92] H : R))
noncomputable def r39_11 (k : KT R) : KT R := fun fr H => opn 21 fr (fun s0 s2 s3 s4 s5 s6 s7 s8 s9 s10 s31 s38 s39 s40 s49 s55 s59 s66 s71 s77 s92 => 
(k [s0, (.str []), (.bool false), s4, s5, s6, s7, s8, s9, s10, s31, s38, s39, s40, s49, s55, s59, s66, s71, s77, s92] H : R))
noncomputable def r39_10 (k : KT R) : KT R := fun fr H => opn 21 fr (fun s0 s2 s3 s4 s5 s6 s7 s8 s9 s10 s31 s38 s39 s40 s49 s55 s59 s66 s71 s77 s92 => 
(qLss X 3 s10 (.int .i64 0) fun v49 =>
k [s0, s2, s3, s4, s5, s6, s7, s8, s9, s10, s31, s38, s39, s40, v49, s55, s59, s66, s71, s77, s92] H : R))
noncomputable def r39_9 (C : CallF) (k : KT R) : KT R := fun fr H => opn 21 fr (fun s0 s2 s3 s4 s5 s6 s7 s8 s9 s10 s31 s38 s39 s40 s49 s55 s59 s66 s71 s77 s92 => 
(qAdd X 3 s6 (.int .i64 1) fun v45 =>
qIx s0 v45 fun v46 =>
qRes (C 10 [(.str [34,92,47,98,102,110,114,116]), v46] H) fun v47 H =>
k [s0, s2, s3, s4, s5, s6, s7, s8, s9, v47, s31, s38, s39, s40, s49, s55, s59, s66, s71, s77, s92] H : R))
noncomputable def r39_21 (k : KT R) : KT R := fun fr H => opn 21 fr (fun s0 s2 s3 s4 s5 s6 s7 s8 s9 s10 s31 s38 s39 s40 s49 s55 s59 s66 s71 s77 s92 => 
(qAdd X 3 s6 (.int .i64 1) fun v80 =>
qIx s0 v80 fun v81 =>
qEql X 5 v81 (.int .u8 117) fun v82 =>
k [s0, s2, s3, s4, s5, s6, s7, s8, s9, s10, s31, s38, s39, s40, s49, s55, s59, s66, s71, v82, s92] H : R))
noncomputable def r39_19 (k : KT R) : KT R := fun fr H => opn 21 fr (fun s0 s2 s3 s4 s5 s6 s7 s8 s9 s10 s31 s38 s39 s40 s49 s55 s59 s66 s71 s77 s92 => 
(qAdd X 3 s6 (.int .i64 1) fun v73 =>
qLenS s0 fun v75 =>
qGeq X 3 v73 v75 fun v76 =>
k [s0, s2, s3, s4, s5, s6, s7, s8, s9, s10, s31, s38, s39, s40, s49, s55, s59, s66, v76, s77, s92] H : R))
noncomputable def r39_17 (k : KT R) : KT R := fun fr H => opn 21 fr (fun s0 s2 s3 s4 s5 s6 s7 s8 s9 s10 s31 s38 s39 s40 s49 s55 s59 s66 s71 s77 s92 => 
(qNeq X 21 s7 (.int .i32 92) fun v68 =>
k [s0, s2, s3, s4, s5, s6, s7, s8, s9, s10, s31, s38, s39, s40, s49, s55, s59, v68, s71, s77, s92] H : R))
noncomputable def r39_15 (k : KT R) : KT R := fun fr H => opn 21 fr (fun s0 s2 s3 s4 s5 s6 s7 s8 s9 s10 s31 s38 s39 s40 s49 s55 s59 s66 s71 s77 s92 => 
(qLss X 21 s7 (.int .i32 32) fun v61 =>
qG v61 false (fun k => k s7 H) H fun v63 H =>
qG v61 false (fun k => qEql X 21 v63 (.int .i32 34) fun v => k v H) H fun v64 H =>
qPick v61 (.bool true) v64 fun v65 =>
k [s0, s2, s3, s4, s5, s6, s7, s8, s9, s10, s31, s38, s39, s40, s49, s55, v65, s66, s71, s77, s92] H : R))
noncomputable def r39_14 (k : KT R) : KT R := fun fr H => opn 21 fr (fun s0 s2 s3 s4 s5 s6 s7 s8 s9 s10 s31 s38 s39 s40 s49 s55 s59 s66 s71 s77 s92 => 
(qLss X 3 s6 s5 fun v58 =>
k [s0, s2, s3, s4, s5, s6, s7, s8, s9, s10, s31, s38, s39, s40, s49, v58, s59, s66, s71, s77, s92] H : R))
noncomputable def r39_8 (k : KT R) : KT R := fun fr H => opn 21 fr (fun s0 s2 s3 s4 s5 s6 s7 s8 s9 s10 s31 s38 s39 s40 s49 s55 s59 s66 s71 s77 s92 => 
(qExt s39 1 fun v41 =>
qExt s39 2 fun v42 =>
k [s0, s2, s3, s4, s5, v41, v42, s8, s9, s10, s31, s38, s39, s40, s49, s55, s59, s66, s71, s77, s92] H : R))
noncomputable def r39_7 (k : KT R) : KT R := fun fr H => opn 21 fr (fun s0 s2 s3 s4 s5 s6 s7 s8 s9 s10 s31 s38 s39 s40 s49 s55 s59 s66 s71 s77 s92 => 
(qNext s38 H fun v39 H =>
qExt v39 0 fun v40 =>
k [s0, s2, s3, s4, s5, s6, s7, s8, s9, s10, s31, s38, v39, v40, s49, s55, s59, s66, s71, s77, s92] H : R))
noncomputable def l39_12 (C : CallF) (k1 : KT R) (kr : KT R) : KT R → KT R := fun k2 => (r39_7 (qCd (sel 13) (fun k12 => k12) (fun _ => k1) (qBl (fun k3 => (r39_8 (qBl (fun k4 => (r39_14 (qCd (sel 15) (fun k5 => k5) (fun k5 => (r39_15 (qCd (sel 16) (fun _ => (r39_16 kr)) (fun k6 => (r39_17 (qCd (sel 17) (fun k7 => (r39_18 C k7)) (fun k7 => (r39_19 (qCd (sel 18) (fun _ => (r39_20 kr)) (fun k8 => (r39_21 (qCd (sel 19) (fun k9 => (r39_22 C (r39_23 (qCd (sel 20) (fun _ => (r39_24 kr)) (fun k10 => k10) (r39_25 C (r39_26 k9)))))) (fun k9 => (r39_9 C (r39_10 (qCd (sel 14) (fun _ => (r39_11 kr)) (fun k11 => k11) (r39_12 C (r39_13 k9)))))) k8))) k7))) k6))) k5))) k4))) k3))) k2)))
noncomputable def r39_6 (k : KT R) : KT R := fun fr H => opn 21 fr (fun s0 s2 s3 s4 s5 s6 s7 s8 s9 s10 s31 s38 s39 s40 s49 s55 s59 s66 s71 s77 s92 => 
(qRange s0 H fun v38 H =>
k [s0, s2, s3, s4, s5, s6, s7, s8, s9, s10, s31, v38, s39, s40, s49, s55, s59, s66, s71, s77, s92] H : R))
noncomputable def r39_5 (k : KT R) : KT R := fun fr H => opn 21 fr (fun s0 s2 s3 s4 s5 s6 s7 s8 s9 s10 s31 s38 s39 s40 s49 s55 s59 s66 s71 s77 s92 => 
(k [s0, s2, s3, s4, (.int .i64 0), s6, s7, s8, s9, s10, s31, s38, s39, s40, s49, s55, s59, s66, s71, s77, s92] H : R))
noncomputable def r39_4 (k : KT R) : KT R := fun fr H => opn 21 fr (fun s0 s2 s3 s4 s5 s6 s7 s8 s9 s10 s31 s38 s39 s40 s49 s55 s59 s66 s71 s77 s92 => 
(qNew (.obj 60 0 z60) .ptr H fun v4 H =>
k [s0, s2, s3, v4, s5, s6, s7, s8, s9, s10, s31, s38, s39, s40, s49, s55, s59, s66, s71, s77, s92] H : R))
noncomputable def r39_3 (k : KT R) : KT R := fun fr H => opn 21 fr (fun s0 s2 s3 s4 s5 s6 s7 s8 s9 s10 s31 s38 s39 s40 s49 s55 s59 s66 s71 s77 s92 => 
(qLenS s0 fun v34 =>
qSub X 3 v34 (.int .i64 1) fun v35 =>
qSlc Tryz.t9.desc 0 s0 (some (.int .i64 1)) (some v35) none fun v36 =>
k [v36, s2, s3, s4, s5, s6, s7, s8, s9, s10, s31, s38, s39, s40, s49, s55, s59, s66, s71, s77, s92] H : R))
noncomputable def r39_2 (k : KT R) : KT R := fun fr H => opn 21 fr (fun s0 s2 s3 s4 s5 s6 s7 s8 s9 s10 s31 s38 s39 s40 s49 s55 s59 s66 s71 s77 s92 => 
(k [s0, (.str []), (.bool false), s4, s5, s6, s7, s8, s9, s10, s31, s38, s39, s40, s49, s55, s59, s66, s71, s77, s92] H : R))
noncomputable def r39_1 (C : CallF) (k : KT R) : KT R := fun fr H => opn 21 fr (fun s0 s2 s3 s4 s5 s6 s7 s8 s9 s10 s31 s38 s39 s40 s49 s55 s59 s66 s71 s77 s92 => 
(qLenS s0 fun v12 =>
qLss X 3 v12 (.int .i64 2) fun v13 =>
qG v13 false (fun k => k s0 H) H fun v15 H =>
qG v13 false (fun k => qIx v15 (.int .i64 0) fun v => k v H) H fun v16 H =>
qG v13 false (fun k => qNeq X 5 v16 (.int .u8 34) fun v => k v H) H fun v17 H =>
qPick v13 (.bool true) v17 fun v18 =>
qG v18 false (fun k => k s0 H) H fun v20 H =>
qG v18 false (fun k => k s0 H) H fun v21 H =>
qG v18 false (fun k => qLenS v21 fun v => k v H) H fun v22 H =>
qG v18 false (fun k => qSub X 3 v22 (.int .i64 1) fun v => k v H) H fun v23 H =>
qG v18 false (fun k => qIx v20 v23 fun v => k v H) H fun v24 H =>
qG v18 false (fun k => qNeq X 5 v24 (.int .u8 34) fun v => k v H) H fun v25 H =>
qPick v18 (.bool true) v25 fun v26 =>
qG v26 false (fun k => k s0 H) H fun v28 H =>
qG v26 false (fun k => qRes (C 47 [v28] H) k) H fun v29 H =>
qG v26 false (fun k => qNot v29 fun v => k v H) H fun v30 H =>
qPick v26 (.bool true) v30 fun v31 =>
k [s0, s2, s3, s4, s5, s6, s7, s8, s9, s10, v31, s38, s39, s40, s49, s55, s59, s66, s71, s77, s92] H : R))
noncomputable def r39_0 (k : KT R) : KT R := fun fr H => opn 21 fr (fun s0 s2 s3 s4 s5 s6 s7 s8 s9 s10 s31 s38 s39 s40 s49 s55 s59 s66 s71 s77 s92 => 
(k [s0, (.str []), (.bool false), s4, s5, s6, s7, s8, s9, s10, s31, s38, s39, s40, s49, s55, s59, s66, s71, s77, s92] H : R))
noncomputable def c39 (C : CallF) (l0 : List AV) (H : AH) (k : AV → AH → R) : R := opn 1 l0 (fun x0 => (qFn (fun kr => (r39_0 (r39_1 C (qCd (sel 10) (fun _ => (r39_2 kr)) (fun k13 => k13) (r39_3 (r39_4 (r39_5 (r39_6 (qBl (fun k1 => (qLoop (l39_12 C k1 kr))) (r39_27 C kr))))))))))
(fun fr H => k (.tup [(sel 1 fr), (sel 2 fr)]) H) [x0, Aes.undef, Aes.undef, Aes.undef, Aes.undef, Aes.undef, Aes.undef, Aes.undef, Aes.undef, Aes.undef, Aes.undef, Aes.undef, Aes.undef, Aes.undef, Aes.undef, Aes.undef, Aes.undef, Aes.undef, Aes.undef, Aes.undef, Aes.undef] H : R))
/- refectory/refectoryref02.digits -/
noncomputable def r40_4 (k : KT R) : KT R := fun fr H => opn 5 fr (fun s0 s1 s4 s5 s19 => 
(k [s0, s1, s5, s5, s19] H : R))
noncomputable def r40_3 (k : KT R) : KT R := fun fr H => opn 5 fr (fun s0 s1 s4 s5 s19 => 
(qAdd X 3 s5 (.int .i64 1) fun v21 =>
k [s0, s1, s4, v21, s19] H : R))
noncomputable def r40_2 (C : CallF) (k : KT R) : KT R := fun fr H => opn 5 fr (fun s0 s1 s4 s5 s19 => 
(qAdd X 3 s1 s5 fun v8 =>
qLenS s0 fun v10 =>
qLss X 3 v8 v10 fun v11 =>
qG v11 true (fun k => k s0 H) H fun v13 H =>
qG v11 true (fun k => k s1 H) H fun v14 H =>
qG v11 true (fun k => k s5 H) H fun v15 H =>
qG v11 true (fun k => qAdd X 3 v14 v15 fun v => k v H) H fun v16 H =>
qG v11 true (fun k => qIx v13 v16 fun v => k v H) H fun v17 H =>
qG v11 true (fun k => qRes (C 24 [v17] H) k) H fun v18 H =>
qPick v11 v18 (.bool false) fun v19 =>
k [s0, s1, s4, s5, v19] H : R))
noncomputable def l40_4 (C : CallF) (k1 : KT R) : KT R → KT R := fun k2 => (r40_2 C (qCd (sel 4) (fun k4 => k4) (fun _ => k1) (qBl (fun k3 => (r40_3 k3)) k2)))
noncomputable def r40_1 (k : KT R) : KT R := fun fr H => opn 5 fr (fun s0 s1 s4 s5 s19 => 
(k [s0, s1, s4, (.int .i64 0), s19] H : R))
noncomputable def r40_0 (k : KT R) : KT R := fun fr H => opn 5 fr (fun s0 s1 s4 s5 s19 => 
(k [s0, s1, (.int .i64 0), s5, s19] H : R))
noncomputable def c40 (C : CallF) (l0 : List AV) (H : AH) (k : AV → AH → R) : R := opn 2 l0 (fun x0 x1 => (qFn (fun kr => (r40_0 (r40_1 (qBl (fun k1 => (qLoop (l40_4 C k1))) (r40_4 kr)))))
(fun fr H => k (sel 2 fr) H) [x0, x1, Aes.undef, Aes.undef, Aes.undef] H : R))
/- refectory/refectoryref04.block -/
noncomputable def r41_10 (k : KT R) : KT R := fun fr H => opn 10 fr (fun s0 s1 s4 s5 s6 s7 s11 s21 s41 s59 => 
(k [s0, s1, (.str []), s1, (.bool false), s7, s11, s21, s41, s59] H : R))
noncomputable def r41_5 (C : CallF) (k : KT R) : KT R := fun fr H => opn 10 fr (fun s0 s1 s4 s5 s6 s7 s11 s21 s41 s59 => 
(qRes (C 56 [s7] H) fun v36 H =>
qAdd X 3 s1 (.int .i64 3) fun v38 =>
qRes (C 57 [s7] H) fun v40 H =>
k [s0, s1, v36, v38, v40, s7, s11, s21, s41, s59] H : R))
noncomputable def r41_7 (k : KT R) : KT R := fun fr H => opn 10 fr (fun s0 s1 s4 s5 s6 s7 s11 s21 s41 s59 => 
(qAdd X 9 s7 (.str [34,34,34]) fun v56 =>
qAdd X 3 s1 (.int .i64 4) fun v58 =>
k [s0, v58, s4, s5, s6, v56, s11, s21, s41, s59] H : R))
noncomputable def r41_9 (k : KT R) : KT R := fun fr H => opn 10 fr (fun s0 s1 s4 s5 s6 s7 s11 s21 s41 s59 => 
(k [s0, s1, (.str []), s1, (.bool false), s7, s11, s21, s41, s59] H : R))
noncomputable def r41_3 (k : KT R) : KT R := fun fr H => opn 10 fr (fun s0 s1 s4 s5 s6 s7 s11 s21 s41 s59 => 
(qAdd X 3 s1 (.int .i64 1) fun v16 =>
qSlc Tryz.t9.desc 0 s0 (some s1) (some v16) none fun v17 =>
qAdd X 9 s7 v17 fun v18 =>
qAdd X 3 s1 (.int .i64 1) fun v20 =>
k [s0, v20, s4, s5, s6, v18, s11, s21, s41, s59] H : R))
noncomputable def r41_8 (k : KT R) : KT R := fun fr H => opn 10 fr (fun s0 s1 s4 s5 s6 s7 s11 s21 s41 s59 => 
(qIx s0 s1 fun v62 =>
qLss X 5 v62 (.int .u8 32) fun v63 =>
qG v63 true (fun k => k s0 H) H fun v65 H =>
qG v63 true (fun k => k s1 H) H fun v66 H =>
qG v63 true (fun k => qIx v65 v66 fun v => k v H) H fun v67 H =>
qG v63 true (fun k => qNeq X 5 v67 (.int .u8 9) fun v => k v H) H fun v68 H =>
qPick v63 v68 (.bool false) fun v69 =>
qG v69 true (fun k => k s0 H) H fun v71 H =>
qG v69 true (fun k => k s1 H) H fun v72 H =>
qG v69 true (fun k => qIx v71 v72 fun v => k v H) H fun v73 H =>
qG v69 true (fun k => qNeq X 5 v73 (.int .u8 10) fun v => k v H) H fun v74 H =>
qPick v69 v74 (.bool false) fun v75 =>
qG v75 true (fun k => k s0 H) H fun v77 H =>
qG v75 true (fun k => k s1 H) H fun v78 H =>
qG v75 true (fun k => qIx v77 v78 fun v => k v H) H fun v79 H =>
qG v75 true (fun k => qNeq X 5 v79 (.int .u8 13) fun v => k v H) H fun v80 H =>
qPick v75 v80 (.bool false) fun v81 =>
k [s0, s1, s4, s5, s6, s7, s11, s21, s41, v81] H : R))
noncomputable def r41_6 (k : KT R) : KT R := fun fr H => opn 10 fr (fun s0 s1 s4 s5 s6 s7 s11 s21 s41 s59 => 
(qLenS s0 fun v43 =>
qSub X 3 v43 s1 fun v45 =>
qGeq X 3 v45 (.int .i64 4) fun v46 =>
qG v46 true (fun k => k s0 H) H fun v48 H =>
qG v46 true (fun k => k s1 H) H fun v49 H =>
qG v46 true (fun k => k s1 H) H fun v50 H =>
qG v46 true (fun k => qAdd X 3 v50 (.int .i64 4) fun v => k v H) H fun v51 H =>
qG v46 true (fun k => qSlc Tryz.t9.desc 0 v48 (some v49) (some v51) none fun v => k v H) H fun v52 H =>
qG v46 true (fun k => qEql X 9 v52 (.str [92,34,34,34]) fun v => k v H) H fun v53 H =>
qPick v46 v53 (.bool false) fun v54 =>
k [s0, s1, s4, s5, s6, s7, s11, s21, v54, s59] H : R))
noncomputable def r41_4 (k : KT R) : KT R := fun fr H => opn 10 fr (fun s0 s1 s4 s5 s6 s7 s11 s21 s41 s59 => 
(qLenS s0 fun v23 =>
qSub X 3 v23 s1 fun v25 =>
qGeq X 3 v25 (.int .i64 3) fun v26 =>
qG v26 true (fun k => k s0 H) H fun v28 H =>
qG v26 true (fun k => k s1 H) H fun v29 H =>
qG v26 true (fun k => k s1 H) H fun v30 H =>
qG v26 true (fun k => qAdd X 3 v30 (.int .i64 3) fun v => k v H) H fun v31 H =>
qG v26 true (fun k => qSlc Tryz.t9.desc 0 v28 (some v29) (some v31) none fun v => k v H) H fun v32 H =>
qG v26 true (fun k => qEql X 9 v32 (.str [34,34,34]) fun v => k v H) H fun v33 H =>
qPick v26 v33 (.bool false) fun v34 =>
k [s0, s1, s4, s5, s6, s7, s11, v34, s41, s59] H : R))
noncomputable def r41_2 (k : KT R) : KT R := fun fr H => opn 10 fr (fun s0 s1 s4 s5 s6 s7 s11 s21 s41 s59 => 
(qLenS s0 fun v10 =>
qLss X 3 s1 v10 fun v11 =>
k [s0, s1, s4, s5, s6, s7, v11, s21, s41, s59] H : R))
noncomputable def l41_8 (C : CallF) (k1 : KT R) (kr : KT R) : KT R → KT R := fun k2 => (r41_2 (qCd (sel 6) (fun k8 => k8) (fun _ => k1) (qBl (fun k3 => (qBl (fun k4 => (r41_4 (qCd (sel 7) (fun _ => (r41_5 C kr)) (fun k5 => (r41_6 (qCd (sel 8) (fun k6 => (r41_7 k6)) (fun k6 => (r41_8 (qCd (sel 9) (fun _ => (r41_9 kr)) (fun k7 => (r41_3 k7)) k6))) k5))) k4))) k3)) k2)))
noncomputable def r41_1 (k : KT R) : KT R := fun fr H => opn 10 fr (fun s0 s1 s4 s5 s6 s7 s11 s21 s41 s59 => 
(k [s0, s1, s4, s5, s6, (.str []), s11, s21, s41, s59] H : R))
noncomputable def r41_0 (k : KT R) : KT R := fun fr H => opn 10 fr (fun s0 s1 s4 s5 s6 s7 s11 s21 s41 s59 => 
(k [s0, s1, (.str []), (.int .i64 0), (.bool false), s7, s11, s21, s41, s59] H : R))
noncomputable def c41 (C : CallF) (l0 : List AV) (H : AH) (k : AV → AH → R) : R := opn 2 l0 (fun x0 x1 => (qFn (fun kr => (r41_0 (r41_1 (qBl (fun k1 => (qLoop (l41_8 C k1 kr))) (r41_10 kr)))))
(fun fr H => k (.tup [(sel 2 fr), (sel 3 fr), (sel 4 fr)]) H) [x0, x1, Aes.undef, Aes.undef, Aes.undef, Aes.undef, Aes.undef, Aes.undef, Aes.undef, Aes.undef] H : R))
/- refectory/refectoryref01.Unquote -/
noncomputable def r42_15 (k : KT R) : KT R := fun fr H => opn 13 fr (fun s0 s2 s3 s4 s5 s6 s7 s8 s29 s38 s48 s61 s69 => 
(k [s0, s5, (.bool true), s4, s5, s6, s7, s8, s29, s38, s48, s61, s69] H : R))
noncomputable def r42_12 (k : KT R) : KT R := fun fr H => opn 13 fr (fun s0 s2 s3 s4 s5 s6 s7 s8 s29 s38 s48 s61 s69 => 
(qAdd X 9 s5 s7 fun v64 =>
qAdd X 3 s6 (.int .i64 1) fun v66 =>
qAdd X 3 v66 s8 fun v68 =>
k [s0, s2, s3, s4, v64, v68, s7, s8, s29, s38, s48, s61, s69] H : R))
noncomputable def r42_11 (k : KT R) : KT R := fun fr H => opn 13 fr (fun s0 s2 s3 s4 s5 s6 s7 s8 s29 s38 s48 s61 s69 => 
(k [s0, (.str []), (.bool false), s4, s5, s6, s7, s8, s29, s38, s48, s61, s69] H : R))
noncomputable def r42_10 (k : KT R) : KT R := fun fr H => opn 13 fr (fun s0 s2 s3 s4 s5 s6 s7 s8 s29 s38 s48 s61 s69 => 
(qEql X 3 s8 (.int .i64 0) fun v61 =>
k [s0, s2, s3, s4, s5, s6, s7, s8, s29, s38, s48, v61, s69] H : R))
noncomputable def r42_9 (C : CallF) (k : KT R) : KT R := fun fr H => opn 13 fr (fun s0 s2 s3 s4 s5 s6 s7 s8 s29 s38 s48 s61 s69 => 
(qAdd X 3 s6 (.int .i64 1) fun v56 =>
qRes (C 58 [s4, v56] H) fun v57 H =>
qExt v57 0 fun v58 =>
qExt v57 1 fun v59 =>
k [s0, s2, s3, s4, s5, s6, v58, v59, s29, s38, s48, s61, s69] H : R))
noncomputable def r42_14 (k : KT R) : KT R := fun fr H => opn 13 fr (fun s0 s2 s3 s4 s5 s6 s7 s8 s29 s38 s48 s61 s69 => 
(k [s0, (.str []), (.bool false), s4, s5, s6, s7, s8, s29, s38, s48, s61, s69] H : R))
noncomputable def r42_7 (k : KT R) : KT R := fun fr H => opn 13 fr (fun s0 s2 s3 s4 s5 s6 s7 s8 s29 s38 s48 s61 s69 => 
(qAdd X 3 s6 (.int .i64 1) fun v43 =>
qSlc Tryz.t9.desc 0 s4 (some s6) (some v43) none fun v44 =>
qAdd X 9 s5 v44 fun v45 =>
qAdd X 3 s6 (.int .i64 1) fun v47 =>
k [s0, s2, s3, s4, v45, v47, s7, s8, s29, s38, s48, s61, s69] H : R))
noncomputable def r42_13 (k : KT R) : KT R := fun fr H => opn 13 fr (fun s0 s2 s3 s4 s5 s6 s7 s8 s29 s38 s48 s61 s69 => 
(qIx s4 s6 fun v72 =>
qLss X 5 v72 (.int .u8 32) fun v73 =>
qG v73 false (fun k => k s4 H) H fun v75 H =>
qG v73 false (fun k => k s6 H) H fun v76 H =>
qG v73 false (fun k => qIx v75 v76 fun v => k v H) H fun v77 H =>
qG v73 false (fun k => qEql X 5 v77 (.int .u8 34) fun v => k v H) H fun v78 H =>
qPick v73 (.bool true) v78 fun v79 =>
k [s0, s2, s3, s4, s5, s6, s7, s8, s29, s38, s48, s61, v79] H : R))
noncomputable def r42_8 (k : KT R) : KT R := fun fr H => opn 13 fr (fun s0 s2 s3 s4 s5 s6 s7 s8 s29 s38 s48 s61 s69 => 
(qIx s4 s6 fun v51 =>
qEql X 5 v51 (.int .u8 92) fun v52 =>
k [s0, s2, s3, s4, s5, s6, s7, s8, s29, s38, v52, s61, s69] H : R))
noncomputable def r42_6 (k : KT R) : KT R := fun fr H => opn 13 fr (fun s0 s2 s3 s4 s5 s6 s7 s8 s29 s38 s48 s61 s69 => 
(qLenS s4 fun v37 =>
qLss X 3 s6 v37 fun v38 =>
k [s0, s2, s3, s4, s5, s6, s7, s8, s29, v38, s48, s61, s69] H : R))
noncomputable def l42_8 (C : CallF) (k1 : KT R) (kr : KT R) : KT R → KT R := fun k2 => (r42_6 (qCd (sel 9) (fun k8 => k8) (fun _ => k1) (qBl (fun k3 => (qBl (fun k4 => (r42_8 (qCd (sel 10) (fun k5 => (r42_9 C (r42_10 (qCd (sel 11) (fun _ => (r42_11 kr)) (fun k6 => k6) (r42_12 k5))))) (fun k5 => (r42_13 (qCd (sel 12) (fun _ => (r42_14 kr)) (fun k7 => (r42_7 k7)) k5))) k4))) k3)) k2)))
noncomputable def r42_5 (k : KT R) : KT R := fun fr H => opn 13 fr (fun s0 s2 s3 s4 s5 s6 s7 s8 s29 s38 s48 s61 s69 => 
(k [s0, s2, s3, s4, s5, (.int .i64 0), s7, s8, s29, s38, s48, s61, s69] H : R))
noncomputable def r42_4 (k : KT R) : KT R := fun fr H => opn 13 fr (fun s0 s2 s3 s4 s5 s6 s7 s8 s29 s38 s48 s61 s69 => 
(k [s0, s2, s3, s4, (.str []), s6, s7, s8, s29, s38, s48, s61, s69] H : R))
noncomputable def r42_3 (k : KT R) : KT R := fun fr H => opn 13 fr (fun s0 s2 s3 s4 s5 s6 s7 s8 s29 s38 s48 s61 s69 => 
(qLenS s0 fun v32 =>
qSub X 3 v32 (.int .i64 1) fun v33 =>
qSlc Tryz.t9.desc 0 s0 (some (.int .i64 1)) (some v33) none fun v34 =>
k [s0, s2, s3, v34, s5, s6, s7, s8, s29, s38, s48, s61, s69] H : R))
noncomputable def r42_2 (k : KT R) : KT R := fun fr H => opn 13 fr (fun s0 s2 s3 s4 s5 s6 s7 s8 s29 s38 s48 s61 s69 => 
(k [s0, (.str []), (.bool false), s4, s5, s6, s7, s8, s29, s38, s48, s61, s69] H : R))
noncomputable def r42_1 (C : CallF) (k : KT R) : KT R := fun fr H => opn 13 fr (fun s0 s2 s3 s4 s5 s6 s7 s8 s29 s38 s48 s61 s69 => 
(qLenS s0 fun v10 =>
qLss X 3 v10 (.int .i64 2) fun v11 =>
qG v11 false (fun k => k s0 H) H fun v13 H =>
qG v11 false (fun k => qIx v13 (.int .i64 0) fun v => k v H) H fun v14 H =>
qG v11 false (fun k => qNeq X 5 v14 (.int .u8 34) fun v => k v H) H fun v15 H =>
qPick v11 (.bool true) v15 fun v16 =>
qG v16 false (fun k => k s0 H) H fun v18 H =>
qG v16 false (fun k => k s0 H) H fun v19 H =>
qG v16 false (fun k => qLenS v19 fun v => k v H) H fun v20 H =>
qG v16 false (fun k => qSub X 3 v20 (.int .i64 1) fun v => k v H) H fun v21 H =>
qG v16 false (fun k => qIx v18 v21 fun v => k v H) H fun v22 H =>
qG v16 false (fun k => qNeq X 5 v22 (.int .u8 34) fun v => k v H) H fun v23 H =>
qPick v16 (.bool true) v23 fun v24 =>
qG v24 false (fun k => k s0 H) H fun v26 H =>
qG v24 false (fun k => qRes (C 57 [v26] H) k) H fun v27 H =>
qG v24 false (fun k => qNot v27 fun v => k v H) H fun v28 H =>
qPick v24 (.bool true) v28 fun v29 =>
k [s0, s2, s3, s4, s5, s6, s7, s8, v29, s38, s48, s61, s69] H : R))
noncomputable def r42_0 (k : KT R) : KT R := fun fr H => opn 13 fr (fun s0 s2 s3 s4 s5 s6 s7 s8 s29 s38 s48 s61 s69 => 
(k [s0, (.str []), (.bool false), s4, s5, s6, s7, s8, s29, s38, s48, s61, s69] H : R))
noncomputable def c42 (C : CallF) (l0 : List AV) (H : AH) (k : AV → AH → R) : R := opn 1 l0 (fun x0 => (qFn (fun kr => (r42_0 (r42_1 C (qCd (sel 8) (fun _ => (r42_2 kr)) (fun k9 => k9) (r42_3 (r42_4 (r42_5 (qBl (fun k1 => (qLoop (l42_8 C k1 kr))) (r42_15 kr)))))))))
(fun fr H => k (.tup [(sel 1 fr), (sel 2 fr)]) H) [x0, Aes.undef, Aes.undef, Aes.undef, Aes.undef, Aes.undef, Aes.undef, Aes.undef, Aes.undef, Aes.undef, Aes.undef, Aes.undef, Aes.undef] H : R))
/- internal/stringslite.TrimPrefix -/
noncomputable def r43_3 (k : KT R) : KT R := fun fr H => opn 4 fr (fun s0 s1 s4 s7 => 
(k [s0, s1, s0, s7] H : R))
noncomputable def r43_2 (k : KT R) : KT R := fun fr H => opn 4 fr (fun s0 s1 s4 s7 => 
(qLenS s1 fun v10 =>
qSlc Tryz.t9.desc 0 s0 (some v10) none none fun v11 =>
k [s0, s1, v11, s7] H : R))
noncomputable def r43_1 (C : CallF) (k : KT R) : KT R := fun fr H => opn 4 fr (fun s0 s1 s4 s7 => 
(qRes (C 32 [s0, s1] H) fun v7 H =>
k [s0, s1, s4, v7] H : R))
noncomputable def r43_0 (k : KT R) : KT R := fun fr H => opn 4 fr (fun s0 s1 s4 s7 => 
(k [s0, s1, (.str []), s7] H : R))
noncomputable def c43 (C : CallF) (l0 : List AV) (H : AH) (k : AV → AH → R) : R := opn 2 l0 (fun x0 x1 => (qFn (fun kr => (r43_0 (r43_1 C (qCd (sel 3) (fun _ => (r43_2 kr)) (fun k1 => k1) (r43_3 kr)))))
(fun fr H => k (sel 2 fr) H) [x0, x1, Aes.undef, Aes.undef] H : R))
/- strings.TrimLeft -/
noncomputable def r44_8 (C : CallF) (k : KT R) : KT R := fun fr H => opn 8 fr (fun s0 s1 s4 s5 s6 s12 s21 s31 => 
(qRes (C 62 [s0, s1] H) fun v36 H =>
k [s0, s1, v36, s5, s6, s12, s21, s31] H : R))
noncomputable def r44_7 (C : CallF) (k : KT R) : KT R := fun fr H => opn 8 fr (fun s0 s1 s4 s5 s6 s12 s21 s31 => 
(qRes (C 61 [s0, s5] H) fun v33 H =>
k [s0, s1, v33, s5, s6, s12, s21, s31] H : R))
noncomputable def r44_6 (k : KT R) : KT R := fun fr H => opn 8 fr (fun s0 s1 s4 s5 s6 s12 s21 s31 => 
(k [s0, s1, s4, s5, s6, s12, s21, s6] H : R))
noncomputable def r44_5 (C : CallF) (k : KT R) : KT R := fun fr H => opn 8 fr (fun s0 s1 s4 s5 s6 s12 s21 s31 => 
(qRes (C 60 [s1] H) fun v28 H =>
qExt v28 0 fun v29 =>
qExt v28 1 fun v30 =>
qNew (.cells z82) .ptr H fun v5 H =>
qSt 256 v5 v29 H fun _ H =>
k [s0, s1, s4, v5, v30, s12, s21, s31] H : R))
noncomputable def r44_4 (C : CallF) (k : KT R) : KT R := fun fr H => opn 8 fr (fun s0 s1 s4 s5 s6 s12 s21 s31 => 
(qIx s1 (.int .i64 0) fun v24 =>
qRes (C 59 [s0, v24] H) fun v25 H =>
k [s0, s1, v25, s5, s6, s12, s21, s31] H : R))
noncomputable def r44_3 (k : KT R) : KT R := fun fr H => opn 8 fr (fun s0 s1 s4 s5 s6 s12 s21 s31 => 
(qLenS s1 fun v15 =>
qEql X 3 v15 (.int .i64 1) fun v16 =>
qG v16 true (fun k => k s1 H) H fun v18 H =>
qG v16 true (fun k => qIx v18 (.int .i64 0) fun v => k v H) H fun v19 H =>
qG v16 true (fun k => qLss X 5 v19 (.int .u8 128) fun v => k v H) H fun v20 H =>
qPick v16 v20 (.bool false) fun v21 =>
k [s0, s1, s4, s5, s6, s12, v21, s31] H : R))
noncomputable def r44_2 (k : KT R) : KT R := fun fr H => opn 8 fr (fun s0 s1 s4 s5 s6 s12 s21 s31 => 
(k [s0, s1, s0, s5, s6, s12, s21, s31] H : R))
noncomputable def r44_1 (k : KT R) : KT R := fun fr H => opn 8 fr (fun s0 s1 s4 s5 s6 s12 s21 s31 => 
(qEql X 9 s0 (.str []) fun v8 =>
qG v8 false (fun k => k s1 H) H fun v10 H =>
qG v8 false (fun k => qEql X 9 v10 (.str []) fun v => k v H) H fun v11 H =>
qPick v8 (.bool true) v11 fun v12 =>
k [s0, s1, s4, s5, s6, v12, s21, s31] H : R))
noncomputable def r44_0 (k : KT R) : KT R := fun fr H => opn 8 fr (fun s0 s1 s4 s5 s6 s12 s21 s31 => 
(k [s0, s1, (.str []), s5, s6, s12, s21, s31] H : R))
noncomputable def c44 (C : CallF) (l0 : List AV) (H : AH) (k : AV → AH → R) : R := opn 2 l0 (fun x0 x1 => (qFn (fun kr => (r44_0 (r44_1 (qCd (sel 5) (fun _ => (r44_2 kr)) (fun k3 => k3) (r44_3 (qCd (sel 6) (fun _ => (r44_4 C kr)) (fun k2 => k2) (r44_5 C (r44_6 (qCd (sel 7) (fun _ => (r44_7 C kr)) (fun k1 => k1) (r44_8 C kr))))))))))
(fun fr H => k (sel 2 fr) H) [x0, x1, Aes.undef, Aes.undef, Aes.undef, Aes.undef, Aes.undef, Aes.undef] H : R))
/- internal/stringslite.CutPrefix -/
noncomputable def r45_3 (k : KT R) : KT R := fun fr H => opn 5 fr (fun s0 s1 s4 s5 s9 => 
(qLenS s1 fun v13 =>
qSlc Tryz.t9.desc 0 s0 (some v13) none none fun v14 =>
k [s0, s1, v14, (.bool true), s9] H : R))
noncomputable def r45_2 (k : KT R) : KT R := fun fr H => opn 5 fr (fun s0 s1 s4 s5 s9 => 
(k [s0, s1, s0, (.bool false), s9] H : R))
noncomputable def r45_1 (C : CallF) (k : KT R) : KT R := fun fr H => opn 5 fr (fun s0 s1 s4 s5 s9 => 
(qRes (C 32 [s0, s1] H) fun v8 H =>
qNot v8 fun v9 =>
k [s0, s1, s4, s5, v9] H : R))
noncomputable def r45_0 (k : KT R) : KT R := fun fr H => opn 5 fr (fun s0 s1 s4 s5 s9 => 
(k [s0, s1, (.str []), (.bool false), s9] H : R))
noncomputable def c45 (C : CallF) (l0 : List AV) (H : AH) (k : AV → AH → R) : R := opn 2 l0 (fun x0 x1 => (qFn (fun kr => (r45_0 (r45_1 C (qCd (sel 4) (fun _ => (r45_2 kr)) (fun k1 => k1) (r45_3 kr)))))
(fun fr H => k (.tup [(sel 2 fr), (sel 3 fr)]) H) [x0, x1, Aes.undef, Aes.undef, Aes.undef] H : R))
/- refectory/runes.Valid -/
noncomputable def r47_1 (C : CallF) (k : KT R) : KT R := fun fr H => opn 2 fr (fun s0 s2 => 
(qRes (C 64 [s0] H) fun v4 H =>
k [s0, v4] H : R))
noncomputable def r47_0 (k : KT R) : KT R := fun fr H => opn 2 fr (fun s0 s2 => 
(k [s0, (.bool false)] H : R))
noncomputable def c47 (C : CallF) (l0 : List AV) (H : AH) (k : AV → AH → R) : R := opn 1 l0 (fun x0 => (qFn (fun kr => (r47_0 (r47_1 C kr)))
(fun fr H => k (sel 1 fr) H) [x0, Aes.undef] H : R))
/- refectory/runes.indent -/
noncomputable def r50_1 (C : CallF) (k : KT R) : KT R := fun fr H => opn 2 fr (fun s0 s2 => 
(qLenS s0 fun v4 =>
qRes (C 44 [s0, (.str [32,9])] H) fun v6 H =>
qLenS v6 fun v7 =>
qSub X 3 v4 v7 fun v8 =>
k [s0, v8] H : R))
noncomputable def r50_0 (k : KT R) : KT R := fun fr H => opn 2 fr (fun s0 s2 => 
(k [s0, (.int .i64 0)] H : R))
noncomputable def c50 (C : CallF) (l0 : List AV) (H : AH) (k : AV → AH → R) : R := opn 1 l0 (fun x0 => (qFn (fun kr => (r50_0 (r50_1 C kr)))
(fun fr H => k (sel 1 fr) H) [x0, Aes.undef] H : R))
/- refectory/runes.Block$1 -/
noncomputable def r51_1 (C : CallF) (k : KT R) : KT R := fun fr H => opn 2 fr (fun s0 s2 => 
(qRes (C 50 [s0] H) fun v4 H =>
qLenS s0 fun v6 =>
qEql X 3 v4 v6 fun v7 =>
k [s0, v7] H : R))
noncomputable def r51_0 (k : KT R) : KT R := fun fr H => opn 2 fr (fun s0 s2 => 
(k [s0, (.bool false)] H : R))
noncomputable def c51 (C : CallF) (l0 : List AV) (H : AH) (k : AV → AH → R) : R := opn 1 l0 (fun x0 => (qFn (fun kr => (r51_0 (r51_1 C kr)))
(fun fr H => k (sel 1 fr) H) [x0, Aes.undef] H : R))
/- strings.IndexAny -/
noncomputable def r53_22 (k : KT R) : KT R := fun fr H => opn 20 fr (fun s0 s1 s4 s5 s6 s7 s8 s9 s10 s12 s15 s20 s26 s32 s36 s42 s45 s46 s47 s53 => 
(k [s0, s1, (.int .i64 (-1)), s5, s6, s7, s8, s9, s10, s12, s15, s20, s26, s32, s36, s42, s45, s46, s47, s53] H : R))
noncomputable def r53_21 (k : KT R) : KT R := fun fr H => opn 20 fr (fun s0 s1 s4 s5 s6 s7 s8 s9 s10 s12 s15 s20 s26 s32 s36 s42 s45 s46 s47 s53 => 
(k [s0, s1, s9, s5, s6, s7, s8, s9, s10, s12, s15, s20, s26, s32, s36, s42, s45, s46, s47, s53] H : R))
noncomputable def r53_20 (C : CallF) (k : KT R) : KT R := fun fr H => opn 20 fr (fun s0 s1 s4 s5 s6 s7 s8 s9 s10 s12 s15 s20 s26 s32 s36 s42 s45 s46 s47 s53 => 
(qRes (C 68 [s1, s10] H) fun v52 H =>
qGeq X 3 v52 (.int .i64 0) fun v53 =>
k [s0, s1, s4, s5, s6, s7, s8, s9, s10, s12, s15, s20, s26, s32, s36, s42, s45, s46, s47, v53] H : R))
noncomputable def r53_19 (k : KT R) : KT R := fun fr H => opn 20 fr (fun s0 s1 s4 s5 s6 s7 s8 s9 s10 s12 s15 s20 s26 s32 s36 s42 s45 s46 s47 s53 => 
(qExt s46 1 fun v48 =>
qExt s46 2 fun v49 =>
k [s0, s1, s4, s5, s6, s7, s8, v48, v49, s12, s15, s20, s26, s32, s36, s42, s45, s46, s47, s53] H : R))
noncomputable def r53_18 (k : KT R) : KT R := fun fr H => opn 20 fr (fun s0 s1 s4 s5 s6 s7 s8 s9 s10 s12 s15 s20 s26 s32 s36 s42 s45 s46 s47 s53 => 
(qNext s45 H fun v46 H =>
qExt v46 0 fun v47 =>
k [s0, s1, s4, s5, s6, s7, s8, s9, s10, s12, s15, s20, s26, s32, s36, s42, s45, v46, v47, s53] H : R))
noncomputable def l53_5 (C : CallF) (k1 : KT R) (kr : KT R) : KT R → KT R := fun k2 => (r53_18 (qCd (sel 18) (fun k5 => k5) (fun _ => k1) (qBl (fun k3 => (r53_19 (r53_20 C (qCd (sel 19) (fun _ => (r53_21 kr)) (fun k4 => k4) k3)))) k2)))
noncomputable def r53_17 (k : KT R) : KT R := fun fr H => opn 20 fr (fun s0 s1 s4 s5 s6 s7 s8 s9 s10 s12 s15 s20 s26 s32 s36 s42 s45 s46 s47 s53 => 
(qRange s0 H fun v45 H =>
k [s0, s1, s4, s5, s6, s7, s8, s9, s10, s12, s15, s20, s26, s32, s36, s42, v45, s46, s47, s53] H : R))
noncomputable def r53_16 (k : KT R) : KT R := fun fr H => opn 20 fr (fun s0 s1 s4 s5 s6 s7 s8 s9 s10 s12 s15 s20 s26 s32 s36 s42 s45 s46 s47 s53 => 
(k [s0, s1, (.int .i64 (-1)), s5, s6, s7, s8, s9, s10, s12, s15, s20, s26, s32, s36, s42, s45, s46, s47, s53] H : R))
noncomputable def r53_13 (k : KT R) : KT R := fun fr H => opn 20 fr (fun s0 s1 s4 s5 s6 s7 s8 s9 s10 s12 s15 s20 s26 s32 s36 s42 s45 s46 s47 s53 => 
(qAdd X 3 s8 (.int .i64 1) fun v38 =>
k [s0, s1, s4, s5, s6, s7, v38, s9, s10, s12, s15, s20, s26, s32, s36, s42, s45, s46, s47, s53] H : R))
noncomputable def r53_15 (k : KT R) : KT R := fun fr H => opn 20 fr (fun s0 s1 s4 s5 s6 s7 s8 s9 s10 s12 s15 s20 s26 s32 s36 s42 s45 s46 s47 s53 => 
(k [s0, s1, s8, s5, s6, s7, s8, s9, s10, s12, s15, s20, s26, s32, s36, s42, s45, s46, s47, s53] H : R))
noncomputable def r53_14 (C : CallF) (k : KT R) : KT R := fun fr H => opn 20 fr (fun s0 s1 s4 s5 s6 s7 s8 s9 s10 s12 s15 s20 s26 s32 s36 s42 s45 s46 s47 s53 => 
(qIx s0 s8 fun v41 =>
qRes (C 70 [s6, v41] H) fun v42 H =>
k [s0, s1, s4, s5, s6, s7, s8, s9, s10, s12, s15, s20, s26, s32, s36, v42, s45, s46, s47, s53] H : R))
noncomputable def r53_12 (k : KT R) : KT R := fun fr H => opn 20 fr (fun s0 s1 s4 s5 s6 s7 s8 s9 s10 s12 s15 s20 s26 s32 s36 s42 s45 s46 s47 s53 => 
(qLenS s0 fun v35 =>
qLss X 3 s8 v35 fun v36 =>
k [s0, s1, s4, s5, s6, s7, s8, s9, s10, s12, s15, s20, s26, s32, v36, s42, s45, s46, s47, s53] H : R))
noncomputable def l53_12 (C : CallF) (k8 : KT R) (kr : KT R) : KT R → KT R := fun k9 => (r53_12 (qCd (sel 14) (fun k12 => k12) (fun _ => k8) (qBl (fun k10 => (r53_14 C (qCd (sel 15) (fun _ => (r53_15 kr)) (fun k11 => k11) k10))) (r53_13 k9))))
noncomputable def r53_11 (k : KT R) : KT R := fun fr H => opn 20 fr (fun s0 s1 s4 s5 s6 s7 s8 s9 s10 s12 s15 s20 s26 s32 s36 s42 s45 s46 s47 s53 => 
(k [s0, s1, s4, s5, s6, s7, (.int .i64 0), s9, s10, s12, s15, s20, s26, s32, s36, s42, s45, s46, s47, s53] H : R))
noncomputable def r53_10 (k : KT R) : KT R := fun fr H => opn 20 fr (fun s0 s1 s4 s5 s6 s7 s8 s9 s10 s12 s15 s20 s26 s32 s36 s42 s45 s46 s47 s53 => 
(k [s0, s1, s4, s5, s6, s7, s8, s9, s10, s12, s15, s20, s26, s7, s36, s42, s45, s46, s47, s53] H : R))
noncomputable def r53_9 (C : CallF) (k : KT R) : KT R := fun fr H => opn 20 fr (fun s0 s1 s4 s5 s6 s7 s8 s9 s10 s12 s15 s20 s26 s32 s36 s42 s45 s46 s47 s53 => 
(qRes (C 60 [s1] H) fun v29 H =>
qExt v29 0 fun v30 =>
qExt v29 1 fun v31 =>
qNew (.cells z82) .ptr H fun v6 H =>
qSt 256 v6 v30 H fun _ H =>
k [s0, s1, s4, s5, v6, v31, s8, s9, s10, s12, s15, s20, s26, s32, s36, s42, s45, s46, s47, s53] H : R))
noncomputable def r53_8 (C : CallF) (k : KT R) : KT R := fun fr H => opn 20 fr (fun s0 s1 s4 s5 s6 s7 s8 s9 s10 s12 s15 s20 s26 s32 s36 s42 s45 s46 s47 s53 => 
(qLenS s0 fun v25 =>
qRes (C 69 [v25] H) fun v26 H =>
k [s0, s1, s4, s5, s6, s7, s8, s9, s10, s12, s15, s20, v26, s32, s36, s42, s45, s46, s47, s53] H : R))
noncomputable def r53_7 (C : CallF) (k : KT R) : KT R := fun fr H => opn 20 fr (fun s0 s1 s4 s5 s6 s7 s8 s9 s10 s12 s15 s20 s26 s32 s36 s42 s45 s46 s47 s53 => 
(qRes (C 68 [s0, s5] H) fun v23 H =>
k [s0, s1, v23, s5, s6, s7, s8, s9, s10, s12, s15, s20, s26, s32, s36, s42, s45, s46, s47, s53] H : R))
noncomputable def r53_6 (k : KT R) : KT R := fun fr H => opn 20 fr (fun s0 s1 s4 s5 s6 s7 s8 s9 s10 s12 s15 s20 s26 s32 s36 s42 s45 s46 s47 s53 => 
(k [s0, s1, s4, (.int .i32 65533), s6, s7, s8, s9, s10, s12, s15, s20, s26, s32, s36, s42, s45, s46, s47, s53] H : R))
noncomputable def r53_5 (k : KT R) : KT R := fun fr H => opn 20 fr (fun s0 s1 s4 s5 s6 s7 s8 s9 s10 s12 s15 s20 s26 s32 s36 s42 s45 s46 s47 s53 => 
(qGeq X 21 s5 (.int .i32 128) fun v20 =>
k [s0, s1, s4, s5, s6, s7, s8, s9, s10, s12, s15, v20, s26, s32, s36, s42, s45, s46, s47, s53] H : R))
noncomputable def r53_4 (k : KT R) : KT R := fun fr H => opn 20 fr (fun s0 s1 s4 s5 s6 s7 s8 s9 s10 s12 s15 s20 s26 s32 s36 s42 s45 s46 s47 s53 => 
(qIx s1 (.int .i64 0) fun v17 =>
qConvI .i32 v17 fun v18 =>
k [s0, s1, s4, v18, s6, s7, s8, s9, s10, s12, s15, s20, s26, s32, s36, s42, s45, s46, s47, s53] H : R))
noncomputable def r53_3 (k : KT R) : KT R := fun fr H => opn 20 fr (fun s0 s1 s4 s5 s6 s7 s8 s9 s10 s12 s15 s20 s26 s32 s36 s42 s45 s46 s47 s53 => 
(qLenS s1 fun v14 =>
qEql X 3 v14 (.int .i64 1) fun v15 =>
k [s0, s1, s4, s5, s6, s7, s8, s9, s10, s12, v15, s20, s26, s32, s36, s42, s45, s46, s47, s53] H : R))
noncomputable def r53_2 (k : KT R) : KT R := fun fr H => opn 20 fr (fun s0 s1 s4 s5 s6 s7 s8 s9 s10 s12 s15 s20 s26 s32 s36 s42 s45 s46 s47 s53 => 
(k [s0, s1, (.int .i64 (-1)), s5, s6, s7, s8, s9, s10, s12, s15, s20, s26, s32, s36, s42, s45, s46, s47, s53] H : R))
noncomputable def r53_1 (k : KT R) : KT R := fun fr H => opn 20 fr (fun s0 s1 s4 s5 s6 s7 s8 s9 s10 s12 s15 s20 s26 s32 s36 s42 s45 s46 s47 s53 => 
(qEql X 9 s1 (.str []) fun v12 =>
k [s0, s1, s4, s5, s6, s7, s8, s9, s10, v12, s15, s20, s26, s32, s36, s42, s45, s46, s47, s53] H : R))
noncomputable def r53_0 (k : KT R) : KT R := fun fr H => opn 20 fr (fun s0 s1 s4 s5 s6 s7 s8 s9 s10 s12 s15 s20 s26 s32 s36 s42 s45 s46 s47 s53 => 
(k [s0, s1, (.int .i64 0), s5, s6, s7, s8, s9, s10, s12, s15, s20, s26, s32, s36, s42, s45, s46, s47, s53] H : R))
noncomputable def c53 (C : CallF) (l0 : List AV) (H : AH) (k : AV → AH → R) : R := opn 2 l0 (fun x0 x1 => (qFn (fun kr => (r53_0 (r53_1 (qCd (sel 9) (fun _ => (r53_2 kr)) (fun k15 => k15) (r53_3 (qCd (sel 10) (fun _ => (r53_4 (r53_5 (qCd (sel 11) (fun k14 => (r53_6 k14)) (fun k14 => k14) (r53_7 C kr))))) (fun k13 => k13) (r53_8 C (qCd (sel 12) (fun k6 => (r53_9 C (r53_10 (qCd (sel 13) (fun _ => (r53_11 (qBl (fun k8 => (qLoop (l53_12 C k8 kr))) (r53_16 kr)))) (fun k7 => k7) k6)))) (fun k6 => k6) (r53_17 (qBl (fun k1 => (qLoop (l53_5 C k1 kr))) (r53_22 kr)))))))))))
(fun fr H => k (sel 2 fr) H) [x0, x1, Aes.undef, Aes.undef, Aes.undef, Aes.undef, Aes.undef, Aes.undef, Aes.undef, Aes.undef, Aes.undef, Aes.undef, Aes.undef, Aes.undef, Aes.undef, Aes.undef, Aes.undef, Aes.undef, Aes.undef, Aes.undef] H : R))
/- (*strings.Builder).WriteRune -/
noncomputable def r54_4 (k : KT R) : KT R := fun fr H => opn 5 fr (fun s0 s1 s4 s5 s6 => 
(qNc s0 fun v24 =>
qFa 1 v24 fun v25 =>
qLd v25 H fun v26 =>
qLenL v26 fun v27 =>
qSub X 3 v27 s6 fun v29 =>
k [s0, s1, v29, (.nilif), s6] H : R))
noncomputable def r54_3 (C : CallF) (k : KT R) : KT R := fun fr H => opn 5 fr (fun s0 s1 s4 s5 s6 => 
(qNc s0 fun v16 =>
qFa 1 v16 fun v17 =>
qLd v17 H fun v18 =>
qRes (C 71 [v18, s1] H) fun v20 H =>
qNc s0 fun v21 =>
qFa 1 v21 fun v22 =>
qSt 1 v22 v20 H fun _ H =>
k [s0, s1, s4, s5, s6] H : R))
noncomputable def r54_2 (k : KT R) : KT R := fun fr H => opn 5 fr (fun s0 s1 s4 s5 s6 => 
(qNc s0 fun v10 =>
qFa 1 v10 fun v11 =>
qLd v11 H fun v12 =>
qLenL v12 fun v13 =>
k [s0, s1, s4, s5, v13] H : R))
noncomputable def r54_1 (C : CallF) (k : KT R) : KT R := fun fr H => opn 5 fr (fun s0 s1 s4 s5 s6 => 
(qRes (C 46 [s0] H) fun v8 H =>
k [s0, s1, s4, s5, s6] H : R))
noncomputable def r54_0 (k : KT R) : KT R := fun fr H => opn 5 fr (fun s0 s1 s4 s5 s6 => 
(k [s0, s1, (.int .i64 0), (.nilif), s6] H : R))
noncomputable def c54 (C : CallF) (l0 : List AV) (H : AH) (k : AV → AH → R) : R := opn 2 l0 (fun x0 x1 => (qFn (fun kr => (r54_0 (r54_1 C (r54_2 (r54_3 C (r54_4 kr))))))
(fun fr H => k (.tup [(sel 2 fr), (sel 3 fr)]) H) [x0, x1, Aes.undef, Aes.undef, Aes.undef] H : R))
/- refectory/runes.point -/
noncomputable def r55_9 (k : KT R) : KT R := fun fr H => opn 8 fr (fun s0 s2 s3 s4 s5 s13 s22 s31 => 
(qSub X 21 s4 (.int .i32 55296) fun v33 =>
qO (binop X .shl 21 v33 (.int .u64 10)) fun v34 =>
qSub X 21 s5 (.int .i32 56320) fun v36 =>
qAdd X 21 v34 v36 fun v37 =>
qAdd X 21 v37 (.int .i32 65536) fun v38 =>
k [s0, v38, (.int .i64 10), s4, s5, s13, s22, s31] H : R))
noncomputable def r55_8 (k : KT R) : KT R := fun fr H => opn 8 fr (fun s0 s2 s3 s4 s5 s13 s22 s31 => 
(k [s0, (.int .i32 (-1)), (.int .i64 0), s4, s5, s13, s22, s31] H : R))
noncomputable def r55_7 (k : KT R) : KT R := fun fr H => opn 8 fr (fun s0 s2 s3 s4 s5 s13 s22 s31 => 
(qLss X 21 s5 (.int .i32 56320) fun v27 =>
qG v27 false (fun k => k s5 H) H fun v29 H =>
qG v27 false (fun k => qGeq X 21 v29 (.int .i32 57344) fun v => k v H) H fun v30 H =>
qPick v27 (.bool true) v30 fun v31 =>
k [s0, s2, s3, s4, s5, s13, s22, v31] H : R))
noncomputable def r55_6 (C : CallF) (k : KT R) : KT R := fun fr H => opn 8 fr (fun s0 s2 s3 s4 s5 s13 s22 s31 => 
(qSlc Tryz.t9.desc 0 s0 (some (.int .i64 6)) none none fun v24 =>
qRes (C 72 [v24] H) fun v25 H =>
k [s0, s2, s3, s4, v25, s13, s22, s31] H : R))
noncomputable def r55_5 (k : KT R) : KT R := fun fr H => opn 8 fr (fun s0 s2 s3 s4 s5 s13 s22 s31 => 
(k [s0, (.int .i32 (-1)), (.int .i64 0), s4, s5, s13, s22, s31] H : R))
noncomputable def r55_4 (C : CallF) (k : KT R) : KT R := fun fr H => opn 8 fr (fun s0 s2 s3 s4 s5 s13 s22 s31 => 
(qGeq X 21 s4 (.int .i32 56320) fun v16 =>
qG v16 false (fun k => k s0 H) H fun v18 H =>
qG v16 false (fun k => qSlc Tryz.t9.desc 0 v18 (some (.int .i64 4)) none none fun v => k v H) H fun v19 H =>
qG v16 false (fun k => qRes (C 20 [v19, (.str [92,117])] H) k) H fun v20 H =>
qG v16 false (fun k => qNot v20 fun v => k v H) H fun v21 H =>
qPick v16 (.bool true) v21 fun v22 =>
k [s0, s2, s3, s4, s5, s13, v22, s31] H : R))
noncomputable def r55_3 (k : KT R) : KT R := fun fr H => opn 8 fr (fun s0 s2 s3 s4 s5 s13 s22 s31 => 
(k [s0, s4, (.int .i64 4), s4, s5, s13, s22, s31] H : R))
noncomputable def r55_2 (k : KT R) : KT R := fun fr H => opn 8 fr (fun s0 s2 s3 s4 s5 s13 s22 s31 => 
(qLss X 21 s4 (.int .i32 55296) fun v9 =>
qG v9 false (fun k => k s4 H) H fun v11 H =>
qG v9 false (fun k => qGeq X 21 v11 (.int .i32 57344) fun v => k v H) H fun v12 H =>
qPick v9 (.bool true) v12 fun v13 =>
k [s0, s2, s3, s4, s5, v13, s22, s31] H : R))
noncomputable def r55_1 (C : CallF) (k : KT R) : KT R := fun fr H => opn 8 fr (fun s0 s2 s3 s4 s5 s13 s22 s31 => 
(qRes (C 72 [s0] H) fun v7 H =>
k [s0, s2, s3, v7, s5, s13, s22, s31] H : R))
noncomputable def r55_0 (k : KT R) : KT R := fun fr H => opn 8 fr (fun s0 s2 s3 s4 s5 s13 s22 s31 => 
(k [s0, (.int .i32 0), (.int .i64 0), s4, s5, s13, s22, s31] H : R))
noncomputable def c55 (C : CallF) (l0 : List AV) (H : AH) (k : AV → AH → R) : R := opn 1 l0 (fun x0 => (qFn (fun kr => (r55_0 (r55_1 C (r55_2 (qCd (sel 5) (fun _ => (r55_3 kr)) (fun k3 => k3) (r55_4 C (qCd (sel 6) (fun _ => (r55_5 kr)) (fun k2 => k2) (r55_6 C (r55_7 (qCd (sel 7) (fun _ => (r55_8 kr)) (fun k1 => k1) (r55_9 kr)))))))))))
(fun fr H => k (.tup [(sel 1 fr), (sel 2 fr)]) H) [x0, Aes.undef, Aes.undef, Aes.undef, Aes.undef, Aes.undef, Aes.undef, Aes.undef] H : R))
/- refectory/refectoryref01.Block -/
noncomputable def r56_24 (k : KT R) : KT R := fun fr H => opn 16 fr (fun s0 s2 s3 s4 s5 s6 s7 s8 s9 s15 s38 s47 s78 s100 s109 s113 => 
(k [s0, s8, s3, s4, s5, s6, s7, s8, s9, s15, s38, s47, s78, s100, s109, s113] H : R))
noncomputable def r56_20 (k : KT R) : KT R := fun fr H => opn 16 fr (fun s0 s2 s3 s4 s5 s6 s7 s8 s9 s15 s38 s47 s78 s100 s109 s113 => 
(qAdd X 3 s9 (.int .i64 1) fun v111 =>
k [s0, s2, s3, s4, s5, s6, s7, s8, v111, s15, s38, s47, s78, s100, s109, s113] H : R))
noncomputable def r56_23 (k : KT R) : KT R := fun fr H => opn 16 fr (fun s0 s2 s3 s4 s5 s6 s7 s8 s9 s15 s38 s47 s78 s100 s109 s113 => 
(qIa 1 s3 s9 fun v119 =>
qLd v119 H fun v120 =>
qAdd X 9 s8 v120 fun v121 =>
k [s0, s2, s3, s4, s5, s6, s7, v121, s9, s15, s38, s47, s78, s100, s109, s113] H : R))
noncomputable def r56_22 (k : KT R) : KT R := fun fr H => opn 16 fr (fun s0 s2 s3 s4 s5 s6 s7 s8 s9 s15 s38 s47 s78 s100 s109 s113 => 
(qAdd X 9 s8 (.str [10]) fun v115 =>
k [s0, s2, s3, s4, s5, s6, s7, v115, s9, s15, s38, s47, s78, s100, s109, s113] H : R))
noncomputable def r56_21 (k : KT R) : KT R := fun fr H => opn 16 fr (fun s0 s2 s3 s4 s5 s6 s7 s8 s9 s15 s38 s47 s78 s100 s109 s113 => 
(qGtr X 3 s9 (.int .i64 0) fun v113 =>
k [s0, s2, s3, s4, s5, s6, s7, s8, s9, s15, s38, s47, s78, s100, s109, v113] H : R))
noncomputable def r56_19 (k : KT R) : KT R := fun fr H => opn 16 fr (fun s0 s2 s3 s4 s5 s6 s7 s8 s9 s15 s38 s47 s78 s100 s109 s113 => 
(qLenL s3 fun v108 =>
qLss X 3 s9 v108 fun v109 =>
k [s0, s2, s3, s4, s5, s6, s7, s8, s9, s15, s38, s47, s78, s100, v109, s113] H : R))
noncomputable def l56_5 (k1 : KT R) : KT R → KT R := fun k2 => (r56_19 (qCd (sel 14) (fun k5 => k5) (fun _ => k1) (qBl (fun k3 => (r56_21 (qCd (sel 15) (fun k4 => (r56_22 k4)) (fun k4 => k4) (r56_23 k3)))) (r56_20 k2))))
noncomputable def r56_18 (k : KT R) : KT R := fun fr H => opn 16 fr (fun s0 s2 s3 s4 s5 s6 s7 s8 s9 s15 s38 s47 s78 s100 s109 s113 => 
(k [s0, s2, s3, s4, s5, s6, s7, s8, (.int .i64 0), s15, s38, s47, s78, s100, s109, s113] H : R))
noncomputable def r56_17 (k : KT R) : KT R := fun fr H => opn 16 fr (fun s0 s2 s3 s4 s5 s6 s7 s8 s9 s15 s38 s47 s78 s100 s109 s113 => 
(k [s0, s2, s3, s4, s5, s6, s7, (.str []), s9, s15, s38, s47, s78, s100, s109, s113] H : R))
noncomputable def r56_16 (k : KT R) : KT R := fun fr H => opn 16 fr (fun s0 s2 s3 s4 s5 s6 s7 s8 s9 s15 s38 s47 s78 s100 s109 s113 => 
(qLenL s3 fun v103 =>
qSub X 3 v103 (.int .i64 1) fun v104 =>
qSlc Tryz.t71.desc 1 s3 none (some v104) none fun v105 =>
k [s0, s2, v105, s4, s5, s6, s7, s8, s9, s15, s38, s47, s78, s100, s109, s113] H : R))
noncomputable def r56_15 (C : CallF) (k : KT R) : KT R := fun fr H => opn 16 fr (fun s0 s2 s3 s4 s5 s6 s7 s8 s9 s15 s38 s47 s78 s100 s109 s113 => 
(qLenL s3 fun v82 =>
qGtr X 3 v82 (.int .i64 0) fun v83 =>
qG v83 true (fun k => k s3 H) H fun v85 H =>
qG v83 true (fun k => k s3 H) H fun v86 H =>
qG v83 true (fun k => qLenL v86 fun v => k v H) H fun v87 H =>
qG v83 true (fun k => qSub X 3 v87 (.int .i64 1) fun v => k v H) H fun v88 H =>
qG v83 true (fun k => qIa 1 v85 v88 fun v => k v H) H fun v89 H =>
qG v83 true (fun k => qLd v89 H fun v => k v H) H fun v90 H =>
qG v83 true (fun k => k s3 H) H fun v92 H =>
qG v83 true (fun k => k s3 H) H fun v93 H =>
qG v83 true (fun k => qLenL v93 fun v => k v H) H fun v94 H =>
qG v83 true (fun k => qSub X 3 v94 (.int .i64 1) fun v => k v H) H fun v95 H =>
qG v83 true (fun k => qIa 1 v92 v95 fun v => k v H) H fun v96 H =>
qG v83 true (fun k => qLd v96 H fun v => k v H) H fun v97 H =>
qG v83 true (fun k => qLenS v97 fun v => k v H) H fun v98 H =>
qG v83 true (fun k => qRes (C 74 [v90] H) fun v H => qLd v96 H fun w => qSame v97 w (k v H)) H fun v91 H =>
qG v83 true (fun k => qEql X 3 v91 v98 fun v => k v H) H fun v99 H =>
qPick v83 v99 (.bool false) fun v100 =>
k [s0, s2, s3, s4, s5, s6, s7, s8, s9, s15, s38, s47, s78, v100, s109, s113] H : R))
noncomputable def l56_9 (C : CallF) (k6 : KT R) : KT R → KT R := fun k7 => (r56_15 C (qCd (sel 13) (fun k9 => k9) (fun _ => k6) (qBl (fun k8 => (r56_16 k8)) k7)))
noncomputable def r56_14 (k : KT R) : KT R := fun fr H => opn 16 fr (fun s0 s2 s3 s4 s5 s6 s7 s8 s9 s15 s38 s47 s78 s100 s109 s113 => 
(qSlc Tryz.t71.desc 1 s3 (some (.int .i64 1)) none none fun v80 =>
k [s0, s2, v80, s4, s5, s6, s7, s8, s9, s15, s38, s47, s78, s100, s109, s113] H : R))
noncomputable def r56_13 (C : CallF) (k : KT R) : KT R := fun fr H => opn 16 fr (fun s0 s2 s3 s4 s5 s6 s7 s8 s9 s15 s38 s47 s78 s100 s109 s113 => 
(qLenL s3 fun v66 =>
qGtr X 3 v66 (.int .i64 0) fun v67 =>
qG v67 true (fun k => k s3 H) H fun v69 H =>
qG v67 true (fun k => qIa 1 v69 (.int .i64 0) fun v => k v H) H fun v70 H =>
qG v67 true (fun k => qLd v70 H fun v => k v H) H fun v71 H =>
qG v67 true (fun k => k s3 H) H fun v73 H =>
qG v67 true (fun k => qIa 1 v73 (.int .i64 0) fun v => k v H) H fun v74 H =>
qG v67 true (fun k => qLd v74 H fun v => k v H) H fun v75 H =>
qG v67 true (fun k => qLenS v75 fun v => k v H) H fun v76 H =>
qG v67 true (fun k => qRes (C 74 [v71] H) fun v H => qLd v74 H fun w => qSame v75 w (k v H)) H fun v72 H =>
qG v67 true (fun k => qEql X 3 v72 v76 fun v => k v H) H fun v77 H =>
qPick v67 v77 (.bool false) fun v78 =>
k [s0, s2, s3, s4, s5, s6, s7, s8, s9, s15, s38, s47, v78, s100, s109, s113] H : R))
noncomputable def l56_13 (C : CallF) (k10 : KT R) : KT R → KT R := fun k11 => (r56_13 C (qCd (sel 12) (fun k13 => k13) (fun _ => k10) (qBl (fun k12 => (r56_14 k12)) k11)))
noncomputable def r56_11 (k : KT R) : KT R := fun fr H => opn 16 fr (fun s0 s2 s3 s4 s5 s6 s7 s8 s9 s15 s38 s47 s78 s100 s109 s113 => 
(qAdd X 3 s7 (.int .i64 1) fun v49 =>
k [s0, s2, s3, s4, s5, s6, v49, s8, s9, s15, s38, s47, s78, s100, s109, s113] H : R))
noncomputable def r56_12 (C : CallF) (k : KT R) : KT R := fun fr H => opn 16 fr (fun s0 s2 s3 s4 s5 s6 s7 s8 s9 s15 s38 s47 s78 s100 s109 s113 => 
(qIa 1 s3 s7 fun v54 =>
qLd v54 H fun v55 =>
qIa 1 s3 s7 fun v59 =>
qLd v59 H fun v60 =>
qRes (C 74 [v60] H) fun v61 H =>
qLd v54 H fun w => qSame v55 w (qO (foldO min2 s4 [v61]) fun v62 =>
qSlc Tryz.t9.desc 0 v55 (some v62) none none fun v63 =>
qIa 1 s3 s7 fun v64 =>
qSt 1 v64 v63 H fun _ H =>
k [s0, s2, s3, s4, s5, s6, s7, s8, s9, s15, s38, s47, s78, s100, s109, s113] H) : R))
noncomputable def r56_10 (k : KT R) : KT R := fun fr H => opn 16 fr (fun s0 s2 s3 s4 s5 s6 s7 s8 s9 s15 s38 s47 s78 s100 s109 s113 => 
(qLenL s3 fun v42 =>
qLss X 3 s7 v42 fun v43 =>
qG v43 true (fun k => k s4 H) H fun v45 H =>
qG v43 true (fun k => qGtr X 3 v45 (.int .i64 0) fun v => k v H) H fun v46 H =>
qPick v43 v46 (.bool false) fun v47 =>
k [s0, s2, s3, s4, s5, s6, s7, s8, s9, s15, s38, v47, s78, s100, s109, s113] H : R))
noncomputable def l56_17 (C : CallF) (k14 : KT R) : KT R → KT R := fun k15 => (r56_10 (qCd (sel 11) (fun k17 => k17) (fun _ => k14) (qBl (fun k16 => (r56_12 C k16)) (r56_11 k15))))
noncomputable def r56_9 (k : KT R) : KT R := fun fr H => opn 16 fr (fun s0 s2 s3 s4 s5 s6 s7 s8 s9 s15 s38 s47 s78 s100 s109 s113 => 
(k [s0, s2, s3, s4, s5, s6, (.int .i64 1), s8, s9, s15, s38, s47, s78, s100, s109, s113] H : R))
noncomputable def r56_5 (k : KT R) : KT R := fun fr H => opn 16 fr (fun s0 s2 s3 s4 s5 s6 s7 s8 s9 s15 s38 s47 s78 s100 s109 s113 => 
(qAdd X 3 s5 (.int .i64 1) fun v17 =>
k [s0, s2, s3, s4, v17, s6, s7, s8, s9, s15, s38, s47, s78, s100, s109, s113] H : R))
noncomputable def r56_8 (k : KT R) : KT R := fun fr H => opn 16 fr (fun s0 s2 s3 s4 s5 s6 s7 s8 s9 s15 s38 s47 s78 s100 s109 s113 => 
(k [s0, s2, s3, s6, s5, s6, s7, s8, s9, s15, s38, s47, s78, s100, s109, s113] H : R))
noncomputable def r56_7 (k : KT R) : KT R := fun fr H => opn 16 fr (fun s0 s2 s3 s4 s5 s6 s7 s8 s9 s15 s38 s47 s78 s100 s109 s113 => 
(qIa 1 s3 s5 fun v26 =>
qLd v26 H fun v27 =>
qLenS v27 fun v28 =>
qLss X 3 s6 v28 fun v29 =>
qG v29 true (fun k => k s4 H) H fun v31 H =>
qG v29 true (fun k => qLss X 3 v31 (.int .i64 0) fun v => k v H) H fun v32 H =>
qG v29 true (fun k => k v32 H) H fun v33 H =>
qG v33 false (fun k => k s6 H) H fun v34 H =>
qG v33 false (fun k => k s4 H) H fun v35 H =>
qG v33 false (fun k => qLss X 3 v34 v35 fun v => k v H) H fun v36 H =>
qG v29 true (fun k => qPick v33 (.bool true) v36 fun v => k v H) H fun v37 H =>
qPick v29 v37 (.bool false) fun v38 =>
k [s0, s2, s3, s4, s5, s6, s7, s8, s9, s15, v38, s47, s78, s100, s109, s113] H : R))
noncomputable def r56_6 (C : CallF) (k : KT R) : KT R := fun fr H => opn 16 fr (fun s0 s2 s3 s4 s5 s6 s7 s8 s9 s15 s38 s47 s78 s100 s109 s113 => 
(qIa 1 s3 s5 fun v20 =>
qLd v20 H fun v21 =>
qRes (C 74 [v21] H) fun v22 H =>
k [s0, s2, s3, s4, s5, v22, s7, s8, s9, s15, s38, s47, s78, s100, s109, s113] H : R))
noncomputable def r56_4 (k : KT R) : KT R := fun fr H => opn 16 fr (fun s0 s2 s3 s4 s5 s6 s7 s8 s9 s15 s38 s47 s78 s100 s109 s113 => 
(qLenL s3 fun v14 =>
qLss X 3 s5 v14 fun v15 =>
k [s0, s2, s3, s4, s5, s6, s7, s8, s9, v15, s38, s47, s78, s100, s109, s113] H : R))
noncomputable def l56_22 (C : CallF) (k18 : KT R) : KT R → KT R := fun k19 => (r56_4 (qCd (sel 9) (fun k22 => k22) (fun _ => k18) (qBl (fun k20 => (r56_6 C (r56_7 (qCd (sel 10) (fun k21 => (r56_8 k21)) (fun k21 => k21) k20)))) (r56_5 k19))))
noncomputable def r56_3 (k : KT R) : KT R := fun fr H => opn 16 fr (fun s0 s2 s3 s4 s5 s6 s7 s8 s9 s15 s38 s47 s78 s100 s109 s113 => 
(k [s0, s2, s3, s4, (.int .i64 1), s6, s7, s8, s9, s15, s38, s47, s78, s100, s109, s113] H : R))
noncomputable def r56_2 (k : KT R) : KT R := fun fr H => opn 16 fr (fun s0 s2 s3 s4 s5 s6 s7 s8 s9 s15 s38 s47 s78 s100 s109 s113 => 
(k [s0, s2, s3, (.int .i64 (-1)), s5, s6, s7, s8, s9, s15, s38, s47, s78, s100, s109, s113] H : R))
noncomputable def r56_1 (C : CallF) (k : KT R) : KT R := fun fr H => opn 16 fr (fun s0 s2 s3 s4 s5 s6 s7 s8 s9 s15 s38 s47 s78 s100 s109 s113 => 
(qRes (C 73 [s0] H) fun v11 H =>
k [s0, s2, v11, s4, s5, s6, s7, s8, s9, s15, s38, s47, s78, s100, s109, s113] H : R))
noncomputable def r56_0 (k : KT R) : KT R := fun fr H => opn 16 fr (fun s0 s2 s3 s4 s5 s6 s7 s8 s9 s15 s38 s47 s78 s100 s109 s113 => 
(k [s0, (.str []), s3, s4, s5, s6, s7, s8, s9, s15, s38, s47, s78, s100, s109, s113] H : R))
noncomputable def c56 (C : CallF) (l0 : List AV) (H : AH) (k : AV → AH → R) : R := opn 1 l0 (fun x0 => (qFn (fun kr => (r56_0 (r56_1 C (r56_2 (r56_3 (qBl (fun k18 => (qLoop (l56_22 C k18))) (r56_9 (qBl (fun k14 => (qLoop (l56_17 C k14))) (qBl (fun k10 => (qLoop (l56_13 C k10))) (qBl (fun k6 => (qLoop (l56_9 C k6))) (r56_17 (r56_18 (qBl (fun k1 => (qLoop (l56_5 k1))) (r56_24 kr))))))))))))))
(fun fr H => k (sel 1 fr) H) [x0, Aes.undef, Aes.undef, Aes.undef, Aes.undef, Aes.undef, Aes.undef, Aes.undef, Aes.undef, Aes.undef, Aes.undef, Aes.undef, Aes.undef, Aes.undef, Aes.undef, Aes.undef] H : R))
/- refectory/refectoryref01.Valid -/
noncomputable def r57_7 (k : KT R) : KT R := fun fr H => opn 6 fr (fun s0 s2 s3 s5 s9 s17 => 
(k [s0, (.bool true), s3, s5, s9, s17] H : R))
noncomputable def r57_6 (k : KT R) : KT R := fun fr H => opn 6 fr (fun s0 s2 s3 s5 s9 s17 => 
(qAdd X 3 s3 s5 fun v20 =>
k [s0, s2, v20, s5, s9, s17] H : R))
noncomputable def r57_5 (k : KT R) : KT R := fun fr H => opn 6 fr (fun s0 s2 s3 s5 s9 s17 => 
(k [s0, (.bool false), s3, s5, s9, s17] H : R))
noncomputable def r57_4 (k : KT R) : KT R := fun fr H => opn 6 fr (fun s0 s2 s3 s5 s9 s17 => 
(qEql X 3 s5 (.int .i64 0) fun v17 =>
k [s0, s2, s3, s5, s9, v17] H : R))
noncomputable def r57_3 (C : CallF) (k : KT R) : KT R := fun fr H => opn 6 fr (fun s0 s2 s3 s5 s9 s17 => 
(qRes (C 75 [s0, s3] H) fun v13 H =>
qExt v13 0 fun v14 =>
qExt v13 1 fun v15 =>
k [s0, s2, s3, v15, s9, s17] H : R))
noncomputable def r57_2 (k : KT R) : KT R := fun fr H => opn 6 fr (fun s0 s2 s3 s5 s9 s17 => 
(qLenS s0 fun v8 =>
qLss X 3 s3 v8 fun v9 =>
k [s0, s2, s3, s5, v9, s17] H : R))
noncomputable def l57_5 (C : CallF) (k1 : KT R) (kr : KT R) : KT R → KT R := fun k2 => (r57_2 (qCd (sel 4) (fun k5 => k5) (fun _ => k1) (qBl (fun k3 => (r57_3 C (r57_4 (qCd (sel 5) (fun _ => (r57_5 kr)) (fun k4 => k4) (r57_6 k3))))) k2)))
noncomputable def r57_1 (k : KT R) : KT R := fun fr H => opn 6 fr (fun s0 s2 s3 s5 s9 s17 => 
(k [s0, s2, (.int .i64 0), s5, s9, s17] H : R))
noncomputable def r57_0 (k : KT R) : KT R := fun fr H => opn 6 fr (fun s0 s2 s3 s5 s9 s17 => 
(k [s0, (.bool false), s3, s5, s9, s17] H : R))
noncomputable def c57 (C : CallF) (l0 : List AV) (H : AH) (k : AV → AH → R) : R := opn 1 l0 (fun x0 => (qFn (fun kr => (r57_0 (r57_1 (qBl (fun k1 => (qLoop (l57_5 C k1 kr))) (r57_7 kr)))))
(fun fr H => k (sel 1 fr) H) [x0, Aes.undef, Aes.undef, Aes.undef, Aes.undef, Aes.undef] H : R))
/- refectory/refectoryref01.one -/
noncomputable def r58_27 (k : KT R) : KT R := fun fr H => opn 18 fr (fun s0 s1 s4 s5 s6 s7 s11 s14 s15 s24 s26 s28 s30 s32 s34 s66 s76 s94 => 
(k [s0, s1, (.str []), (.int .i64 0), s6, s7, s11, s14, s15, s24, s26, s28, s30, s32, s34, s66, s76, s94] H : R))
noncomputable def r58_7 (k : KT R) : KT R := fun fr H => opn 18 fr (fun s0 s1 s4 s5 s6 s7 s11 s14 s15 s24 s26 s28 s30 s32 s34 s66 s76 s94 => 
(qAdd X 3 s1 (.int .i64 1) fun v22 =>
qSlc Tryz.t9.desc 0 s0 (some s1) (some v22) none fun v23 =>
k [s0, s1, v23, (.int .i64 1), s6, s7, s11, s14, s15, s24, s26, s28, s30, s32, s34, s66, s76, s94] H : R))
noncomputable def r58_9 (k : KT R) : KT R := fun fr H => opn 18 fr (fun s0 s1 s4 s5 s6 s7 s11 s14 s15 s24 s26 s28 s30 s32 s34 s66 s76 s94 => 
(k [s0, s1, (.str [8]), (.int .i64 1), s6, s7, s11, s14, s15, s24, s26, s28, s30, s32, s34, s66, s76, s94] H : R))
noncomputable def r58_11 (k : KT R) : KT R := fun fr H => opn 18 fr (fun s0 s1 s4 s5 s6 s7 s11 s14 s15 s24 s26 s28 s30 s32 s34 s66 s76 s94 => 
(k [s0, s1, (.str [12]), (.int .i64 1), s6, s7, s11, s14, s15, s24, s26, s28, s30, s32, s34, s66, s76, s94] H : R))
noncomputable def r58_13 (k : KT R) : KT R := fun fr H => opn 18 fr (fun s0 s1 s4 s5 s6 s7 s11 s14 s15 s24 s26 s28 s30 s32 s34 s66 s76 s94 => 
(k [s0, s1, (.str [10]), (.int .i64 1), s6, s7, s11, s14, s15, s24, s26, s28, s30, s32, s34, s66, s76, s94] H : R))
noncomputable def r58_15 (k : KT R) : KT R := fun fr H => opn 18 fr (fun s0 s1 s4 s5 s6 s7 s11 s14 s15 s24 s26 s28 s30 s32 s34 s66 s76 s94 => 
(k [s0, s1, (.str [13]), (.int .i64 1), s6, s7, s11, s14, s15, s24, s26, s28, s30, s32, s34, s66, s76, s94] H : R))
noncomputable def r58_17 (k : KT R) : KT R := fun fr H => opn 18 fr (fun s0 s1 s4 s5 s6 s7 s11 s14 s15 s24 s26 s28 s30 s32 s34 s66 s76 s94 => 
(k [s0, s1, (.str [9]), (.int .i64 1), s6, s7, s11, s14, s15, s24, s26, s28, s30, s32, s34, s66, s76, s94] H : R))
noncomputable def r58_26 (C : CallF) (k : KT R) : KT R := fun fr H => opn 18 fr (fun s0 s1 s4 s5 s6 s7 s11 s14 s15 s24 s26 s28 s30 s32 s34 s66 s76 s94 => 
(qRes (C 77 [s6] H) fun v96 H =>
k [s0, s1, v96, (.int .i64 5), s6, s7, s11, s14, s15, s24, s26, s28, s30, s32, s34, s66, s76, s94] H : R))
noncomputable def r58_25 (k : KT R) : KT R := fun fr H => opn 18 fr (fun s0 s1 s4 s5 s6 s7 s11 s14 s15 s24 s26 s28 s30 s32 s34 s66 s76 s94 => 
(k [s0, s1, (.str []), (.int .i64 0), s6, s7, s11, s14, s15, s24, s26, s28, s30, s32, s34, s66, s76, s94] H : R))
noncomputable def r58_24 (k : KT R) : KT R := fun fr H => opn 18 fr (fun s0 s1 s4 s5 s6 s7 s11 s14 s15 s24 s26 s28 s30 s32 s34 s66 s76 s94 => 
(qLss X 3 s6 (.int .i64 0) fun v86 =>
qG v86 false (fun k => k s6 H) H fun v88 H =>
qG v86 false (fun k => qGeq X 3 v88 (.int .i64 55296) fun v => k v H) H fun v89 H =>
qG v86 false (fun k => k v89 H) H fun v90 H =>
qG v90 true (fun k => k s6 H) H fun v91 H =>
qG v90 true (fun k => qLeq X 3 v91 (.int .i64 57343) fun v => k v H) H fun v92 H =>
qG v86 false (fun k => qPick v90 v92 (.bool false) fun v => k v H) H fun v93 H =>
qPick v86 (.bool true) v93 fun v94 =>
k [s0, s1, s4, s5, s6, s7, s11, s14, s15, s24, s26, s28, s30, s32, s34, s66, s76, v94] H : R))
noncomputable def r58_23 (C : CallF) (k : KT R) : KT R := fun fr H => opn 18 fr (fun s0 s1 s4 s5 s6 s7 s11 s14 s15 s24 s26 s28 s30 s32 s34 s66 s76 s94 => 
(qSub X 3 s6 (.int .i64 55296) fun v78 =>
qO (binop X .shl 3 v78 (.int .u64 10)) fun v79 =>
qAdd X 3 (.int .i64 65536) v79 fun v80 =>
qAdd X 3 v80 s7 fun v82 =>
qSub X 3 v82 (.int .i64 56320) fun v83 =>
qRes (C 77 [v83] H) fun v84 H =>
k [s0, s1, v84, (.int .i64 11), s6, s7, s11, s14, s15, s24, s26, s28, s30, s32, s34, s66, s76, s94] H : R))
noncomputable def r58_22 (k : KT R) : KT R := fun fr H => opn 18 fr (fun s0 s1 s4 s5 s6 s7 s11 s14 s15 s24 s26 s28 s30 s32 s34 s66 s76 s94 => 
(qGeq X 3 s7 (.int .i64 56320) fun v72 =>
qG v72 true (fun k => k s7 H) H fun v74 H =>
qG v72 true (fun k => qLeq X 3 v74 (.int .i64 57343) fun v => k v H) H fun v75 H =>
qPick v72 v75 (.bool false) fun v76 =>
k [s0, s1, s4, s5, s6, s7, s11, s14, s15, s24, s26, s28, s30, s32, s34, s66, v76, s94] H : R))
noncomputable def r58_21 (C : CallF) (k : KT R) : KT R := fun fr H => opn 18 fr (fun s0 s1 s4 s5 s6 s7 s11 s14 s15 s24 s26 s28 s30 s32 s34 s66 s76 s94 => 
(qAdd X 3 s1 (.int .i64 7) fun v69 =>
qRes (C 76 [s0, v69] H) fun v70 H =>
k [s0, s1, s4, s5, s6, v70, s11, s14, s15, s24, s26, s28, s30, s32, s34, s66, s76, s94] H : R))
noncomputable def r58_20 (k : KT R) : KT R := fun fr H => opn 18 fr (fun s0 s1 s4 s5 s6 s7 s11 s14 s15 s24 s26 s28 s30 s32 s34 s66 s76 s94 => 
(qGeq X 3 s6 (.int .i64 55296) fun v41 =>
qG v41 true (fun k => k s6 H) H fun v43 H =>
qG v41 true (fun k => qLeq X 3 v43 (.int .i64 56319) fun v => k v H) H fun v44 H =>
qPick v41 v44 (.bool false) fun v45 =>
qG v45 true (fun k => k s1 H) H fun v47 H =>
qG v45 true (fun k => qAdd X 3 v47 (.int .i64 6) fun v => k v H) H fun v48 H =>
qG v45 true (fun k => k s0 H) H fun v49 H =>
qG v45 true (fun k => qLenS v49 fun v => k v H) H fun v50 H =>
qG v45 true (fun k => qLss X 3 v48 v50 fun v => k v H) H fun v51 H =>
qPick v45 v51 (.bool false) fun v52 =>
qG v52 true (fun k => k s0 H) H fun v54 H =>
qG v52 true (fun k => k s1 H) H fun v55 H =>
qG v52 true (fun k => qAdd X 3 v55 (.int .i64 5) fun v => k v H) H fun v56 H =>
qG v52 true (fun k => qIx v54 v56 fun v => k v H) H fun v57 H =>
qG v52 true (fun k => qEql X 5 v57 (.int .u8 92) fun v => k v H) H fun v58 H =>
qPick v52 v58 (.bool false) fun v59 =>
qG v59 true (fun k => k s0 H) H fun v61 H =>
qG v59 true (fun k => k s1 H) H fun v62 H =>
qG v59 true (fun k => qAdd X 3 v62 (.int .i64 6) fun v => k v H) H fun v63 H =>
qG v59 true (fun k => qIx v61 v63 fun v => k v H) H fun v64 H =>
qG v59 true (fun k => qEql X 5 v64 (.int .u8 117) fun v => k v H) H fun v65 H =>
qPick v59 v65 (.bool false) fun v66 =>
k [s0, s1, s4, s5, s6, s7, s11, s14, s15, s24, s26, s28, s30, s32, s34, v66, s76, s94] H : R))
noncomputable def r58_19 (C : CallF) (k : KT R) : KT R := fun fr H => opn 18 fr (fun s0 s1 s4 s5 s6 s7 s11 s14 s15 s24 s26 s28 s30 s32 s34 s66 s76 s94 => 
(qAdd X 3 s1 (.int .i64 1) fun v38 =>
qRes (C 76 [s0, v38] H) fun v39 H =>
k [s0, s1, s4, s5, v39, s7, s11, s14, s15, s24, s26, s28, s30, s32, s34, s66, s76, s94] H : R))
noncomputable def r58_18 (k : KT R) : KT R := fun fr H => opn 18 fr (fun s0 s1 s4 s5 s6 s7 s11 s14 s15 s24 s26 s28 s30 s32 s34 s66 s76 s94 => 
(qEql X 5 s14 (.int .u8 117) fun v35 =>
k [s0, s1, s4, s5, s6, s7, s11, s14, s15, s24, s26, s28, s30, s32, v35, s66, s76, s94] H : R))
noncomputable def r58_16 (k : KT R) : KT R := fun fr H => opn 18 fr (fun s0 s1 s4 s5 s6 s7 s11 s14 s15 s24 s26 s28 s30 s32 s34 s66 s76 s94 => 
(qEql X 5 s14 (.int .u8 116) fun v33 =>
k [s0, s1, s4, s5, s6, s7, s11, s14, s15, s24, s26, s28, s30, v33, s34, s66, s76, s94] H : R))
noncomputable def r58_14 (k : KT R) : KT R := fun fr H => opn 18 fr (fun s0 s1 s4 s5 s6 s7 s11 s14 s15 s24 s26 s28 s30 s32 s34 s66 s76 s94 => 
(qEql X 5 s14 (.int .u8 114) fun v31 =>
k [s0, s1, s4, s5, s6, s7, s11, s14, s15, s24, s26, s28, v31, s32, s34, s66, s76, s94] H : R))
noncomputable def r58_12 (k : KT R) : KT R := fun fr H => opn 18 fr (fun s0 s1 s4 s5 s6 s7 s11 s14 s15 s24 s26 s28 s30 s32 s34 s66 s76 s94 => 
(qEql X 5 s14 (.int .u8 110) fun v29 =>
k [s0, s1, s4, s5, s6, s7, s11, s14, s15, s24, s26, v29, s30, s32, s34, s66, s76, s94] H : R))
noncomputable def r58_10 (k : KT R) : KT R := fun fr H => opn 18 fr (fun s0 s1 s4 s5 s6 s7 s11 s14 s15 s24 s26 s28 s30 s32 s34 s66 s76 s94 => 
(qEql X 5 s14 (.int .u8 102) fun v27 =>
k [s0, s1, s4, s5, s6, s7, s11, s14, s15, s24, v27, s28, s30, s32, s34, s66, s76, s94] H : R))
noncomputable def r58_8 (k : KT R) : KT R := fun fr H => opn 18 fr (fun s0 s1 s4 s5 s6 s7 s11 s14 s15 s24 s26 s28 s30 s32 s34 s66 s76 s94 => 
(qEql X 5 s14 (.int .u8 98) fun v25 =>
k [s0, s1, s4, s5, s6, s7, s11, s14, s15, v25, s26, s28, s30, s32, s34, s66, s76, s94] H : R))
noncomputable def r58_6 (k : KT R) : KT R := fun fr H => opn 18 fr (fun s0 s1 s4 s5 s6 s7 s11 s14 s15 s24 s26 s28 s30 s32 s34 s66 s76 s94 => 
(qEql X 5 s14 (.int .u8 47) fun v18 =>
k [s0, s1, s4, s5, s6, s7, s11, s14, v18, s24, s26, s28, s30, s32, s34, s66, s76, s94] H : R))
noncomputable def r58_5 (k : KT R) : KT R := fun fr H => opn 18 fr (fun s0 s1 s4 s5 s6 s7 s11 s14 s15 s24 s26 s28 s30 s32 s34 s66 s76 s94 => 
(qEql X 5 s14 (.int .u8 92) fun v17 =>
k [s0, s1, s4, s5, s6, s7, s11, s14, v17, s24, s26, s28, s30, s32, s34, s66, s76, s94] H : R))
noncomputable def r58_4 (k : KT R) : KT R := fun fr H => opn 18 fr (fun s0 s1 s4 s5 s6 s7 s11 s14 s15 s24 s26 s28 s30 s32 s34 s66 s76 s94 => 
(qEql X 5 s14 (.int .u8 34) fun v16 =>
k [s0, s1, s4, s5, s6, s7, s11, s14, v16, s24, s26, s28, s30, s32, s34, s66, s76, s94] H : R))
noncomputable def r58_3 (k : KT R) : KT R := fun fr H => opn 18 fr (fun s0 s1 s4 s5 s6 s7 s11 s14 s15 s24 s26 s28 s30 s32 s34 s66 s76 s94 => 
(qIx s0 s1 fun v14 =>
k [s0, s1, s4, s5, s6, s7, s11, v14, s15, s24, s26, s28, s30, s32, s34, s66, s76, s94] H : R))
noncomputable def r58_2 (k : KT R) : KT R := fun fr H => opn 18 fr (fun s0 s1 s4 s5 s6 s7 s11 s14 s15 s24 s26 s28 s30 s32 s34 s66 s76 s94 => 
(k [s0, s1, (.str []), (.int .i64 0), s6, s7, s11, s14, s15, s24, s26, s28, s30, s32, s34, s66, s76, s94] H : R))
noncomputable def r58_1 (k : KT R) : KT R := fun fr H => opn 18 fr (fun s0 s1 s4 s5 s6 s7 s11 s14 s15 s24 s26 s28 s30 s32 s34 s66 s76 s94 => 
(qLenS s0 fun v10 =>
qGeq X 3 s1 v10 fun v11 =>
k [s0, s1, s4, s5, s6, s7, v11, s14, s15, s24, s26, s28, s30, s32, s34, s66, s76, s94] H : R))
noncomputable def r58_0 (k : KT R) : KT R := fun fr H => opn 18 fr (fun s0 s1 s4 s5 s6 s7 s11 s14 s15 s24 s26 s28 s30 s32 s34 s66 s76 s94 => 
(k [s0, s1, (.str []), (.int .i64 0), s6, s7, s11, s14, s15, s24, s26, s28, s30, s32, s34, s66, s76, s94] H : R))
noncomputable def c58 (C : CallF) (l0 : List AV) (H : AH) (k : AV → AH → R) : R := opn 2 l0 (fun x0 x1 => (qFn (fun kr => (r58_0 (r58_1 (qCd (sel 6) (fun _ => (r58_2 kr)) (fun k14 => k14) (r58_3 (qBl (fun k1 => (r58_4 (qCd (sel 8) (fun k12 => k12) (fun k12 => (r58_5 (qCd (sel 8) (fun k13 => k13) (fun k13 => (r58_6 k13)) k12))) (qCd (sel 8) (fun _ => (r58_7 kr)) (fun k2 => (r58_8 (qCd (sel 9) (fun _ => (r58_9 kr)) (fun k3 => (r58_10 (qCd (sel 10) (fun _ => (r58_11 kr)) (fun k4 => (r58_12 (qCd (sel 11) (fun _ => (r58_13 kr)) (fun k5 => (r58_14 (qCd (sel 12) (fun _ => (r58_15 kr)) (fun k6 => (r58_16 (qCd (sel 13) (fun _ => (r58_17 kr)) (fun k7 => (r58_18 (qCd (sel 14) (fun _ => (r58_19 C (r58_20 (qCd (sel 15) (fun k10 => (r58_21 C (r58_22 (qCd (sel 16) (fun _ => (r58_23 C kr)) (fun k11 => k11) k10)))) (fun k10 => k10) (r58_24 (qCd (sel 17) (fun _ => (r58_25 kr)) (fun k9 => k9) (r58_26 C kr))))))) (fun k8 => k8) k7))) k6))) k5))) k4))) k3))) k2))) k1)))) (r58_27 kr)))))))
(fun fr H => k (.tup [(sel 2 fr), (sel 3 fr)]) H) [x0, x1, Aes.undef, Aes.undef, Aes.undef, Aes.undef, Aes.undef, Aes.undef, Aes.undef, Aes.undef, Aes.undef, Aes.undef, Aes.undef, Aes.undef, Aes.undef, Aes.undef, Aes.undef, Aes.undef] H : R))
/- strings.trimLeftByte -/
noncomputable def r59_3 (k : KT R) : KT R := fun fr H => opn 4 fr (fun s0 s1 s4 s13 => 
(k [s0, s1, s0, s13] H : R))
noncomputable def r59_2 (k : KT R) : KT R := fun fr H => opn 4 fr (fun s0 s1 s4 s13 => 
(qSlc Tryz.t9.desc 0 s0 (some (.int .i64 1)) none none fun v15 =>
k [v15, s1, s4, s13] H : R))
noncomputable def r59_1 (k : KT R) : KT R := fun fr H => opn 4 fr (fun s0 s1 s4 s13 => 
(qLenS s0 fun v6 =>
qGtr X 3 v6 (.int .i64 0) fun v7 =>
qG v7 true (fun k => k s0 H) H fun v9 H =>
qG v7 true (fun k => qIx v9 (.int .i64 0) fun v => k v H) H fun v10 H =>
qG v7 true (fun k => k s1 H) H fun v11 H =>
qG v7 true (fun k => qEql X 5 v10 v11 fun v => k v H) H fun v12 H =>
qPick v7 v12 (.bool false) fun v13 =>
k [s0, s1, s4, v13] H : R))
noncomputable def l59_4 (k1 : KT R) : KT R → KT R := fun k2 => (r59_1 (qCd (sel 3) (fun k4 => k4) (fun _ => k1) (qBl (fun k3 => (r59_2 k3)) k2)))
noncomputable def r59_0 (k : KT R) : KT R := fun fr H => opn 4 fr (fun s0 s1 s4 s13 => 
(k [s0, s1, (.str []), s13] H : R))
noncomputable def c59 (C : CallF) (l0 : List AV) (H : AH) (k : AV → AH → R) : R := opn 2 l0 (fun x0 x1 => (qFn (fun kr => (r59_0 (qBl (fun k1 => (qLoop (l59_4 k1))) (r59_3 kr))))
(fun fr H => k (sel 2 fr) H) [x0, x1, Aes.undef, Aes.undef] H : R))
/- strings.makeASCIISet -/
noncomputable def r60_8 (k : KT R) : KT R := fun fr H => opn 7 fr (fun s0 s2 s3 s4 s5 s9 s16 => 
(qLdA 256 s2 H fun v20 =>
qSt 256 s2 v20 H fun _ H =>
k [s0, s2, (.bool true), s4, s5, s9, s16] H : R))
noncomputable def r60_3 (k : KT R) : KT R := fun fr H => opn 7 fr (fun s0 s2 s3 s4 s5 s9 s16 => 
(qAdd X 3 s4 (.int .i64 1) fun v11 =>
k [s0, s2, s3, v11, s5, s9, s16] H : R))
noncomputable def r60_7 (k : KT R) : KT R := fun fr H => opn 7 fr (fun s0 s2 s3 s4 s5 s9 s16 => 
(qIaA 256 1 s2 s5 fun v19 =>
qSt 1 v19 (.bool true) H fun _ H =>
k [s0, s2, s3, s4, s5, s9, s16] H : R))
noncomputable def r60_6 (k : KT R) : KT R := fun fr H => opn 7 fr (fun s0 s2 s3 s4 s5 s9 s16 => 
(qLdA 256 s2 H fun v17 =>
qSt 256 s2 v17 H fun _ H =>
k [s0, s2, (.bool false), s4, s5, s9, s16] H : R))
noncomputable def r60_5 (k : KT R) : KT R := fun fr H => opn 7 fr (fun s0 s2 s3 s4 s5 s9 s16 => 
(qGeq X 5 s5 (.int .u8 128) fun v16 =>
k [s0, s2, s3, s4, s5, s9, v16] H : R))
noncomputable def r60_4 (k : KT R) : KT R := fun fr H => opn 7 fr (fun s0 s2 s3 s4 s5 s9 s16 => 
(qIx s0 s4 fun v14 =>
k [s0, s2, s3, s4, v14, s9, s16] H : R))
noncomputable def r60_2 (k : KT R) : KT R := fun fr H => opn 7 fr (fun s0 s2 s3 s4 s5 s9 s16 => 
(qLenS s0 fun v8 =>
qLss X 3 s4 v8 fun v9 =>
k [s0, s2, s3, s4, s5, v9, s16] H : R))
noncomputable def l60_5 (k1 : KT R) (kr : KT R) : KT R → KT R := fun k2 => (r60_2 (qCd (sel 5) (fun k5 => k5) (fun _ => k1) (qBl (fun k3 => (r60_4 (r60_5 (qCd (sel 6) (fun _ => (r60_6 kr)) (fun k4 => k4) (r60_7 k3))))) (r60_3 k2))))
noncomputable def r60_1 (k : KT R) : KT R := fun fr H => opn 7 fr (fun s0 s2 s3 s4 s5 s9 s16 => 
(k [s0, s2, s3, (.int .i64 0), s5, s9, s16] H : R))
noncomputable def r60_0 (k : KT R) : KT R := fun fr H => opn 7 fr (fun s0 s2 s3 s4 s5 s9 s16 => 
(qNew (.cells z82) .ptr H fun v2 H =>
k [s0, v2, (.bool false), s4, s5, s9, s16] H : R))
noncomputable def c60 (C : CallF) (l0 : List AV) (H : AH) (k : AV → AH → R) : R := opn 1 l0 (fun x0 => (qFn (fun kr => (r60_0 (r60_1 (qBl (fun k1 => (qLoop (l60_5 k1 kr))) (r60_8 kr)))))
(fun fr H => qPtr (sel 1 fr) (qLdA 256 (sel 1 fr) H fun w0 => k (.tup [w0, (sel 2 fr)]) H)) [x0, Aes.undef, Aes.undef, Aes.undef, Aes.undef, Aes.undef, Aes.undef] H : R))
/- strings.trimLeftASCII -/
noncomputable def r61_4 (k : KT R) : KT R := fun fr H => opn 5 fr (fun s0 s1 s4 s7 s12 => 
(k [s0, s1, s0, s7, s12] H : R))
noncomputable def r61_3 (k : KT R) : KT R := fun fr H => opn 5 fr (fun s0 s1 s4 s7 s12 => 
(qSlc Tryz.t9.desc 0 s0 (some (.int .i64 1)) none none fun v14 =>
k [v14, s1, s4, s7, s12] H : R))
noncomputable def r61_2 (C : CallF) (k : KT R) : KT R := fun fr H => opn 5 fr (fun s0 s1 s4 s7 s12 => 
(qIx s0 (.int .i64 0) fun v10 =>
qRes (C 70 [s1, v10] H) fun v11 H =>
qNot v11 fun v12 =>
k [s0, s1, s4, s7, v12] H : R))
noncomputable def r61_1 (k : KT R) : KT R := fun fr H => opn 5 fr (fun s0 s1 s4 s7 s12 => 
(qLenS s0 fun v6 =>
qGtr X 3 v6 (.int .i64 0) fun v7 =>
k [s0, s1, s4, v7, s12] H : R))
noncomputable def l61_5 (C : CallF) (k1 : KT R) : KT R → KT R := fun k2 => (r61_1 (qCd (sel 3) (fun k5 => k5) (fun _ => k1) (qBl (fun k3 => (r61_2 C (qCd (sel 4) (fun _ => k1) (fun k4 => k4) (r61_3 k3)))) k2)))
noncomputable def r61_0 (k : KT R) : KT R := fun fr H => opn 5 fr (fun s0 s1 s4 s7 s12 => 
(k [s0, s1, (.str []), s7, s12] H : R))
noncomputable def c61 (C : CallF) (l0 : List AV) (H : AH) (k : AV → AH → R) : R := opn 2 l0 (fun x0 x1 => (qFn (fun kr => (r61_0 (qBl (fun k1 => (qLoop (l61_5 C k1))) (r61_4 kr))))
(fun fr H => k (sel 2 fr) H) [x0, x1, Aes.undef, Aes.undef, Aes.undef] H : R))
/- strings.trimLeftUnicode -/
noncomputable def r62_5 (k : KT R) : KT R := fun fr H => opn 7 fr (fun s0 s1 s4 s5 s6 s9 s18 => 
(k [s0, s1, s0, s5, s6, s9, s18] H : R))
noncomputable def r62_4 (k : KT R) : KT R := fun fr H => opn 7 fr (fun s0 s1 s4 s5 s6 s9 s18 => 
(qSlc Tryz.t9.desc 0 s0 (some s6) none none fun v21 =>
k [v21, s1, s4, s5, s6, s9, s18] H : R))
noncomputable def r62_3 (C : CallF) (k : KT R) : KT R := fun fr H => opn 7 fr (fun s0 s1 s4 s5 s6 s9 s18 => 
(qRes (C 79 [s1, s5] H) fun v17 H =>
qNot v17 fun v18 =>
k [s0, s1, s4, s5, s6, s9, v18] H : R))
noncomputable def r62_2 (C : CallF) (k : KT R) : KT R := fun fr H => opn 7 fr (fun s0 s1 s4 s5 s6 s9 s18 => 
(qRes (C 78 [s0] H) fun v12 H =>
qExt v12 0 fun v13 =>
qExt v12 1 fun v14 =>
k [s0, s1, s4, v13, v14, s9, s18] H : R))
noncomputable def r62_1 (k : KT R) : KT R := fun fr H => opn 7 fr (fun s0 s1 s4 s5 s6 s9 s18 => 
(qLenS s0 fun v8 =>
qGtr X 3 v8 (.int .i64 0) fun v9 =>
k [s0, s1, s4, s5, s6, v9, s18] H : R))
noncomputable def l62_5 (C : CallF) (k1 : KT R) : KT R → KT R := fun k2 => (r62_1 (qCd (sel 5) (fun k5 => k5) (fun _ => k1) (qBl (fun k3 => (r62_2 C (r62_3 C (qCd (sel 6) (fun _ => k1) (fun k4 => k4) (r62_4 k3))))) k2)))
noncomputable def r62_0 (k : KT R) : KT R := fun fr H => opn 7 fr (fun s0 s1 s4 s5 s6 s9 s18 => 
(k [s0, s1, (.str []), s5, s6, s9, s18] H : R))
noncomputable def c62 (C : CallF) (l0 : List AV) (H : AH) (k : AV → AH → R) : R := opn 2 l0 (fun x0 x1 => (qFn (fun kr => (r62_0 (qBl (fun k1 => (qLoop (l62_5 C k1))) (r62_5 kr))))
(fun fr H => k (sel 2 fr) H) [x0, x1, Aes.undef, Aes.undef, Aes.undef, Aes.undef, Aes.undef] H : R))
/- strings.IndexRune -/
noncomputable def r68_35 (C : CallF) (k : KT R) : KT R := fun fr H => opn 33 fr (fun s0 s1 s4 s5 s6 s7 s8 s9 s10 s11 s12 s13 s14 s15 s16 s26 s33 s43 s51 s64 s98 s108 s124 s139 s143 s156 s160 s171 s175 s176 s177 s181 s183 => 
(qConvI .u8 s1 fun v169 =>
qRes (C 10 [s0, v169] H) fun v170 H =>
k [s0, s1, v170, s5, s6, s7, s8, s9, s10, s11, s12, s13, s14, s15, s16, s26, s33, s43, s51, s64, s98, s108, s124, s139, s143, s156, s160, s171, s175, s176, s177, s181, s183] H : R))
noncomputable def r68_42 (k : KT R) : KT R := fun fr H => opn 33 fr (fun s0 s1 s4 s5 s6 s7 s8 s9 s10 s11 s12 s13 s14 s15 s16 s26 s33 s43 s51 s64 s98 s108 s124 s139 s143 s156 s160 s171 s175 s176 s177 s181 s183 => 
(k [s0, s1, (.int .i64 (-1)), s5, s6, s7, s8, s9, s10, s11, s12, s13, s14, s15, s16, s26, s33, s43, s51, s64, s98, s108, s124, s139, s143, s156, s160, s171, s175, s176, s177, s181, s183] H : R))
noncomputable def r68_41 (k : KT R) : KT R := fun fr H => opn 33 fr (fun s0 s1 s4 s5 s6 s7 s8 s9 s10 s11 s12 s13 s14 s15 s16 s26 s33 s43 s51 s64 s98 s108 s124 s139 s143 s156 s160 s171 s175 s176 s177 s181 s183 => 
(k [s0, s1, s5, s5, s6, s7, s8, s9, s10, s11, s12, s13, s14, s15, s16, s26, s33, s43, s51, s64, s98, s108, s124, s139, s143, s156, s160, s171, s175, s176, s177, s181, s183] H : R))
noncomputable def r68_40 (k : KT R) : KT R := fun fr H => opn 33 fr (fun s0 s1 s4 s5 s6 s7 s8 s9 s10 s11 s12 s13 s14 s15 s16 s26 s33 s43 s51 s64 s98 s108 s124 s139 s143 s156 s160 s171 s175 s176 s177 s181 s183 => 
(qEql X 21 s6 (.int .i32 65533) fun v181 =>
k [s0, s1, s4, s5, s6, s7, s8, s9, s10, s11, s12, s13, s14, s15, s16, s26, s33, s43, s51, s64, s98, s108, s124, s139, s143, s156, s160, s171, s175, s176, s177, v181, s183] H : R))
noncomputable def r68_39 (k : KT R) : KT R := fun fr H => opn 33 fr (fun s0 s1 s4 s5 s6 s7 s8 s9 s10 s11 s12 s13 s14 s15 s16 s26 s33 s43 s51 s64 s98 s108 s124 s139 s143 s156 s160 s171 s175 s176 s177 s181 s183 => 
(qExt s176 1 fun v178 =>
qExt s176 2 fun v179 =>
k [s0, s1, s4, v178, v179, s7, s8, s9, s10, s11, s12, s13, s14, s15, s16, s26, s33, s43, s51, s64, s98, s108, s124, s139, s143, s156, s160, s171, s175, s176, s177, s181, s183] H : R))
noncomputable def r68_38 (k : KT R) : KT R := fun fr H => opn 33 fr (fun s0 s1 s4 s5 s6 s7 s8 s9 s10 s11 s12 s13 s14 s15 s16 s26 s33 s43 s51 s64 s98 s108 s124 s139 s143 s156 s160 s171 s175 s176 s177 s181 s183 => 
(qNext s175 H fun v176 H =>
qExt v176 0 fun v177 =>
k [s0, s1, s4, s5, s6, s7, s8, s9, s10, s11, s12, s13, s14, s15, s16, s26, s33, s43, s51, s64, s98, s108, s124, s139, s143, s156, s160, s171, s175, v176, v177, s181, s183] H : R))
noncomputable def l68_8 (k4 : KT R) (kr : KT R) : KT R → KT R := fun k5 => (r68_38 (qCd (sel 30) (fun k8 => k8) (fun _ => k4) (qBl (fun k6 => (r68_39 (r68_40 (qCd (sel 31) (fun _ => (r68_41 kr)) (fun k7 => k7) k6)))) k5)))
noncomputable def r68_37 (k : KT R) : KT R := fun fr H => opn 33 fr (fun s0 s1 s4 s5 s6 s7 s8 s9 s10 s11 s12 s13 s14 s15 s16 s26 s33 s43 s51 s64 s98 s108 s124 s139 s143 s156 s160 s171 s175 s176 s177 s181 s183 => 
(qRange s0 H fun v175 H =>
k [s0, s1, s4, s5, s6, s7, s8, s9, s10, s11, s12, s13, s14, s15, s16, s26, s33, s43, s51, s64, s98, s108, s124, s139, s143, s156, s160, s171, v175, s176, s177, s181, s183] H : R))
noncomputable def r68_44 (k : KT R) : KT R := fun fr H => opn 33 fr (fun s0 s1 s4 s5 s6 s7 s8 s9 s10 s11 s12 s13 s14 s15 s16 s26 s33 s43 s51 s64 s98 s108 s124 s139 s143 s156 s160 s171 s175 s176 s177 s181 s183 => 
(k [s0, s1, (.int .i64 (-1)), s5, s6, s7, s8, s9, s10, s11, s12, s13, s14, s15, s16, s26, s33, s43, s51, s64, s98, s108, s124, s139, s143, s156, s160, s171, s175, s176, s177, s181, s183] H : R))
noncomputable def r68_33 (k : KT R) : KT R := fun fr H => opn 33 fr (fun s0 s1 s4 s5 s6 s7 s8 s9 s10 s11 s12 s13 s14 s15 s16 s26 s33 s43 s51 s64 s98 s108 s124 s139 s143 s156 s160 s171 s175 s176 s177 s181 s183 => 
(k [s0, s1, (.int .i64 (-1)), s5, s6, s7, s8, s9, s10, s11, s12, s13, s14, s15, s16, s26, s33, s43, s51, s64, s98, s108, s124, s139, s143, s156, s160, s171, s175, s176, s177, s181, s183] H : R))
noncomputable def r68_22 (k : KT R) : KT R := fun fr H => opn 33 fr (fun s0 s1 s4 s5 s6 s7 s8 s9 s10 s11 s12 s13 s14 s15 s16 s26 s33 s43 s51 s64 s98 s108 s124 s139 s143 s156 s160 s171 s175 s176 s177 s181 s183 => 
(qAdd X 3 s9 s13 fun v111 =>
qSub X 3 v111 s8 fun v113 =>
k [s0, s1, v113, s5, s6, s7, s8, s9, s10, s11, s12, s13, s14, s15, s16, s26, s33, s43, s51, s64, s98, s108, s124, s139, s143, s156, s160, s171, s175, s176, s177, s181, s183] H : R))
noncomputable def r68_21 (k : KT R) : KT R := fun fr H => opn 33 fr (fun s0 s1 s4 s5 s6 s7 s8 s9 s10 s11 s12 s13 s14 s15 s16 s26 s33 s43 s51 s64 s98 s108 s124 s139 s143 s156 s160 s171 s175 s176 s177 s181 s183 => 
(qGeq X 3 s13 (.int .i64 0) fun v108 =>
k [s0, s1, s4, s5, s6, s7, s8, s9, s10, s11, s12, s13, s14, s15, s16, s26, s33, s43, s51, s64, s98, v108, s124, s139, s143, s156, s160, s171, s175, s176, s177, s181, s183] H : R))
noncomputable def r68_20 (C : CallF) (k : KT R) : KT R := fun fr H => opn 33 fr (fun s0 s1 s4 s5 s6 s7 s8 s9 s10 s11 s12 s13 s14 s15 s16 s26 s33 s43 s51 s64 s98 s108 s124 s139 s143 s156 s160 s171 s175 s176 s177 s181 s183 => 
(qSub X 3 s9 s8 fun v102 =>
qSlc Tryz.t9.desc 0 s0 (some v102) none none fun v103 =>
qO (conv X 21 9 s1) fun v105 =>
qRes (C 87 [v103, v105] H) fun v106 H =>
k [s0, s1, s4, s5, s6, s7, s8, s9, s10, s11, s12, v106, s14, s15, s16, s26, s33, s43, s51, s64, s98, s108, s124, s139, s143, s156, s160, s171, s175, s176, s177, s181, s183] H : R))
noncomputable def r68_26 (k : KT R) : KT R := fun fr H => opn 33 fr (fun s0 s1 s4 s5 s6 s7 s8 s9 s10 s11 s12 s13 s14 s15 s16 s26 s33 s43 s51 s64 s98 s108 s124 s139 s143 s156 s160 s171 s175 s176 s177 s181 s183 => 
(qAdd X 3 s9 (.int .i64 1) fun v126 =>
k [s0, s1, s4, s5, s6, s7, s8, v126, s10, s11, s12, s13, s14, s15, s16, s26, s33, s43, s51, s64, s98, s108, s124, s139, s143, s156, s160, s171, s175, s176, s177, s181, s183] H : R))
noncomputable def r68_32 (k : KT R) : KT R := fun fr H => opn 33 fr (fun s0 s1 s4 s5 s6 s7 s8 s9 s10 s11 s12 s13 s14 s15 s16 s26 s33 s43 s51 s64 s98 s108 s124 s139 s143 s156 s160 s171 s175 s176 s177 s181 s183 => 
(qSub X 3 s9 s8 fun v159 =>
k [s0, s1, v159, s5, s6, s7, s8, s9, s10, s11, s12, s13, s14, s15, s16, s26, s33, s43, s51, s64, s98, s108, s124, s139, s143, s156, s160, s171, s175, s176, s177, s181, s183] H : R))
noncomputable def r68_30 (k : KT R) : KT R := fun fr H => opn 33 fr (fun s0 s1 s4 s5 s6 s7 s8 s9 s10 s11 s12 s13 s14 s15 s16 s26 s33 s43 s51 s64 s98 s108 s124 s139 s143 s156 s160 s171 s175 s176 s177 s181 s183 => 
(qAdd X 3 s16 (.int .i64 1) fun v145 =>
k [s0, s1, s4, s5, s6, s7, s8, s9, s10, s11, s12, s13, s14, s15, v145, s26, s33, s43, s51, s64, s98, s108, s124, s139, s143, s156, s160, s171, s175, s176, s177, s181, s183] H : R))
noncomputable def r68_31 (k : KT R) : KT R := fun fr H => opn 33 fr (fun s0 s1 s4 s5 s6 s7 s8 s9 s10 s11 s12 s13 s14 s15 s16 s26 s33 s43 s51 s64 s98 s108 s124 s139 s143 s156 s160 s171 s175 s176 s177 s181 s183 => 
(qSub X 3 s9 s16 fun v149 =>
qIx s0 v149 fun v150 =>
qSub X 3 s8 s16 fun v154 =>
qIx s7 v154 fun v155 =>
qNeq X 5 v150 v155 fun v156 =>
k [s0, s1, s4, s5, s6, s7, s8, s9, s10, s11, s12, s13, s14, s15, s16, s26, s33, s43, s51, s64, s98, s108, s124, s139, s143, v156, s160, s171, s175, s176, s177, s181, s183] H : R))
noncomputable def r68_29 (k : KT R) : KT R := fun fr H => opn 33 fr (fun s0 s1 s4 s5 s6 s7 s8 s9 s10 s11 s12 s13 s14 s15 s16 s26 s33 s43 s51 s64 s98 s108 s124 s139 s143 s156 s160 s171 s175 s176 s177 s181 s183 => 
(qLenS s7 fun v142 =>
qLss X 3 s16 v142 fun v143 =>
k [s0, s1, s4, s5, s6, s7, s8, s9, s10, s11, s12, s13, s14, s15, s16, s26, s33, s43, s51, s64, s98, s108, s124, s139, v143, s156, s160, s171, s175, s176, s177, s181, s183] H : R))
noncomputable def l68_20 (k14 : KT R) (k16 : KT R) : KT R → KT R := fun k17 => (r68_29 (qCd (sel 24) (fun k20 => k20) (fun _ => k16) (qBl (fun k18 => (r68_31 (qCd (sel 25) (fun _ => k14) (fun k19 => k19) k18))) (r68_30 k17))))
noncomputable def r68_28 (k : KT R) : KT R := fun fr H => opn 33 fr (fun s0 s1 s4 s5 s6 s7 s8 s9 s10 s11 s12 s13 s14 s15 s16 s26 s33 s43 s51 s64 s98 s108 s124 s139 s143 s156 s160 s171 s175 s176 s177 s181 s183 => 
(k [s0, s1, s4, s5, s6, s7, s8, s9, s10, s11, s12, s13, s14, s15, (.int .i64 2), s26, s33, s43, s51, s64, s98, s108, s124, s139, s143, s156, s160, s171, s175, s176, s177, s181, s183] H : R))
noncomputable def r68_27 (k : KT R) : KT R := fun fr H => opn 33 fr (fun s0 s1 s4 s5 s6 s7 s8 s9 s10 s11 s12 s13 s14 s15 s16 s26 s33 s43 s51 s64 s98 s108 s124 s139 s143 s156 s160 s171 s175 s176 s177 s181 s183 => 
(qIx s0 s9 fun v129 =>
qEql X 5 v129 s14 fun v131 =>
qG v131 true (fun k => k s0 H) H fun v133 H =>
qG v131 true (fun k => k s9 H) H fun v134 H =>
qG v131 true (fun k => qSub X 3 v134 (.int .i64 1) fun v => k v H) H fun v135 H =>
qG v131 true (fun k => qIx v133 v135 fun v => k v H) H fun v136 H =>
qG v131 true (fun k => k s15 H) H fun v137 H =>
qG v131 true (fun k => qEql X 5 v136 v137 fun v => k v H) H fun v138 H =>
qPick v131 v138 (.bool false) fun v139 =>
k [s0, s1, s4, s5, s6, s7, s8, s9, s10, s11, s12, s13, s14, s15, s16, s26, s33, s43, s51, s64, s98, s108, s124, v139, s143, s156, s160, s171, s175, s176, s177, s181, s183] H : R))
noncomputable def r68_25 (k : KT R) : KT R := fun fr H => opn 33 fr (fun s0 s1 s4 s5 s6 s7 s8 s9 s10 s11 s12 s13 s14 s15 s16 s26 s33 s43 s51 s64 s98 s108 s124 s139 s143 s156 s160 s171 s175 s176 s177 s181 s183 => 
(qLenS s0 fun v123 =>
qLss X 3 s9 v123 fun v124 =>
k [s0, s1, s4, s5, s6, s7, s8, s9, s10, s11, s12, s13, s14, s15, s16, s26, s33, s43, s51, s64, s98, s108, v124, s139, s143, s156, s160, s171, s175, s176, s177, s181, s183] H : R))
noncomputable def l68_21 (k12 : KT R) (kr : KT R) : KT R → KT R := fun k13 => (r68_25 (qCd (sel 22) (fun k21 => k21) (fun _ => k12) (qBl (fun k14 => (r68_27 (qCd (sel 23) (fun _ => (r68_28 (qBl (fun k16 => (qLoop (l68_20 k14 k16))) (r68_32 kr)))) (fun k15 => k15) k14))) (r68_26 k13))))
noncomputable def r68_24 (k : KT R) : KT R := fun fr H => opn 33 fr (fun s0 s1 s4 s5 s6 s7 s8 s9 s10 s11 s12 s13 s14 s15 s16 s26 s33 s43 s51 s64 s98 s108 s124 s139 s143 s156 s160 s171 s175 s176 s177 s181 s183 => 
(qSub X 3 s8 (.int .i64 1) fun v119 =>
qIx s7 v119 fun v120 =>
k [s0, s1, s4, s5, s6, s7, s8, s9, s10, s11, s12, s13, s14, v120, s16, s26, s33, s43, s51, s64, s98, s108, s124, s139, s143, s156, s160, s171, s175, s176, s177, s181, s183] H : R))
noncomputable def r68_23 (k : KT R) : KT R := fun fr H => opn 33 fr (fun s0 s1 s4 s5 s6 s7 s8 s9 s10 s11 s12 s13 s14 s15 s16 s26 s33 s43 s51 s64 s98 s108 s124 s139 s143 s156 s160 s171 s175 s176 s177 s181 s183 => 
(qIx s7 s8 fun v116 =>
k [s0, s1, s4, s5, s6, s7, s8, s9, s10, s11, s12, s13, v116, s15, s16, s26, s33, s43, s51, s64, s98, s108, s124, s139, s143, s156, s160, s171, s175, s176, s177, s181, s183] H : R))
noncomputable def r68_19 (k : KT R) : KT R := fun fr H => opn 33 fr (fun s0 s1 s4 s5 s6 s7 s8 s9 s10 s11 s12 s13 s14 s15 s16 s26 s33 s43 s51 s64 s98 s108 s124 s139 s143 s156 s160 s171 s175 s176 s177 s181 s183 => 
(k [s0, s1, (.int .i64 (-1)), s5, s6, s7, s8, s9, s10, s11, s12, s13, s14, s15, s16, s26, s33, s43, s51, s64, s98, s108, s124, s139, s143, s156, s160, s171, s175, s176, s177, s181, s183] H : R))
noncomputable def r68_18 (C : CallF) (k : KT R) : KT R := fun fr H => opn 33 fr (fun s0 s1 s4 s5 s6 s7 s8 s9 s10 s11 s12 s13 s14 s15 s16 s26 s33 s43 s51 s64 s98 s108 s124 s139 s143 s156 s160 s171 s175 s176 s177 s181 s183 => 
(qG (.bool true) true (fun k => k s10 H) H fun v73 H =>
qG (.bool true) true (fun k => k s9 H) H fun v74 H =>
qG (.bool true) true (fun k => qRes (C 86 [v74] H) k) H fun v75 H =>
qG (.bool true) true (fun k => qGtr X 3 v73 v75 fun v => k v H) H fun v76 H =>
qPick (.bool true) v76 (.bool false) fun v77 =>
qG v77 true (fun k => k s9 H) H fun v79 H =>
qG v77 true (fun k => k s0 H) H fun v80 H =>
qG v77 true (fun k => qLenS v80 fun v => k v H) H fun v81 H =>
qG v77 true (fun k => qLss X 3 v79 v81 fun v => k v H) H fun v82 H =>
qPick v77 v82 (.bool false) fun v83 =>
qG v83 false (fun k => k (.bool false) H) H fun v85 H =>
qG v85 true (fun k => k s10 H) H fun v86 H =>
qG v85 true (fun k => k s9 H) H fun v87 H =>
qG v85 true (fun k => qO (binop X .shr 3 v87 (.int .u64 4)) fun v => k v H) H fun v88 H =>
qG v85 true (fun k => qAdd X 3 (.int .i64 4) v88 fun v => k v H) H fun v89 H =>
qG v85 true (fun k => qGeq X 3 v86 v89 fun v => k v H) H fun v90 H =>
qG v83 false (fun k => qPick v85 v90 (.bool false) fun v => k v H) H fun v91 H =>
qG v83 false (fun k => k v91 H) H fun v92 H =>
qG v92 true (fun k => k s9 H) H fun v93 H =>
qG v92 true (fun k => k s0 H) H fun v94 H =>
qG v92 true (fun k => qLenS v94 fun v => k v H) H fun v95 H =>
qG v92 true (fun k => qLss X 3 v93 v95 fun v => k v H) H fun v96 H =>
qG v83 false (fun k => qPick v92 v96 (.bool false) fun v => k v H) H fun v97 H =>
qPick v83 (.bool true) v97 fun v98 =>
k [s0, s1, s4, s5, s6, s7, s8, s9, s10, s11, s12, s13, s14, s15, s16, s26, s33, s43, s51, s64, v98, s108, s124, s139, s143, s156, s160, s171, s175, s176, s177, s181, s183] H : R))
noncomputable def r68_17 (k : KT R) : KT R := fun fr H => opn 33 fr (fun s0 s1 s4 s5 s6 s7 s8 s9 s10 s11 s12 s13 s14 s15 s16 s26 s33 s43 s51 s64 s98 s108 s124 s139 s143 s156 s160 s171 s175 s176 s177 s181 s183 => 
(qAdd X 3 s9 (.int .i64 1) fun v71 =>
k [s0, s1, s4, s5, s6, s7, s8, v71, s10, s11, s12, s13, s14, s15, s16, s26, s33, s43, s51, s64, s98, s108, s124, s139, s143, s156, s160, s171, s175, s176, s177, s181, s183] H : R))
noncomputable def r68_16 (k : KT R) : KT R := fun fr H => opn 33 fr (fun s0 s1 s4 s5 s6 s7 s8 s9 s10 s11 s12 s13 s14 s15 s16 s26 s33 s43 s51 s64 s98 s108 s124 s139 s143 s156 s160 s171 s175 s176 s177 s181 s183 => 
(qAdd X 3 s10 (.int .i64 1) fun v69 =>
k [s0, s1, s4, s5, s6, s7, s8, s9, v69, s11, s12, s13, s14, s15, s16, s26, s33, s43, s51, s64, s98, s108, s124, s139, s143, s156, s160, s171, s175, s176, s177, s181, s183] H : R))
noncomputable def r68_15 (k : KT R) : KT R := fun fr H => opn 33 fr (fun s0 s1 s4 s5 s6 s7 s8 s9 s10 s11 s12 s13 s14 s15 s16 s26 s33 s43 s51 s64 s98 s108 s124 s139 s143 s156 s160 s171 s175 s176 s177 s181 s183 => 
(qSub X 3 s9 s8 fun v67 =>
k [s0, s1, v67, s5, s6, s7, s8, s9, s10, s11, s12, s13, s14, s15, s16, s26, s33, s43, s51, s64, s98, s108, s124, s139, s143, s156, s160, s171, s175, s176, s177, s181, s183] H : R))
noncomputable def r68_13 (k : KT R) : KT R := fun fr H => opn 33 fr (fun s0 s1 s4 s5 s6 s7 s8 s9 s10 s11 s12 s13 s14 s15 s16 s26 s33 s43 s51 s64 s98 s108 s124 s139 s143 s156 s160 s171 s175 s176 s177 s181 s183 => 
(qAdd X 3 s12 (.int .i64 1) fun v53 =>
k [s0, s1, s4, s5, s6, s7, s8, s9, s10, s11, v53, s13, s14, s15, s16, s26, s33, s43, s51, s64, s98, s108, s124, s139, s143, s156, s160, s171, s175, s176, s177, s181, s183] H : R))
noncomputable def r68_14 (k : KT R) : KT R := fun fr H => opn 33 fr (fun s0 s1 s4 s5 s6 s7 s8 s9 s10 s11 s12 s13 s14 s15 s16 s26 s33 s43 s51 s64 s98 s108 s124 s139 s143 s156 s160 s171 s175 s176 s177 s181 s183 => 
(qSub X 3 s9 s12 fun v57 =>
qIx s0 v57 fun v58 =>
qSub X 3 s8 s12 fun v62 =>
qIx s7 v62 fun v63 =>
qNeq X 5 v58 v63 fun v64 =>
k [s0, s1, s4, s5, s6, s7, s8, s9, s10, s11, s12, s13, s14, s15, s16, s26, s33, s43, s51, v64, s98, s108, s124, s139, s143, s156, s160, s171, s175, s176, s177, s181, s183] H : R))
noncomputable def r68_12 (k : KT R) : KT R := fun fr H => opn 33 fr (fun s0 s1 s4 s5 s6 s7 s8 s9 s10 s11 s12 s13 s14 s15 s16 s26 s33 s43 s51 s64 s98 s108 s124 s139 s143 s156 s160 s171 s175 s176 s177 s181 s183 => 
(qLenS s7 fun v50 =>
qLss X 3 s12 v50 fun v51 =>
k [s0, s1, s4, s5, s6, s7, s8, s9, s10, s11, s12, s13, s14, s15, s16, s26, s33, s43, v51, s64, s98, s108, s124, s139, s143, s156, s160, s171, s175, s176, s177, s181, s183] H : R))
noncomputable def l68_30 (k26 : KT R) : KT R → KT R := fun k27 => (r68_12 (qCd (sel 18) (fun k30 => k30) (fun _ => k26) (qBl (fun k28 => (r68_14 (qCd (sel 19) (fun _ => (fun _ _ => fail)) (fun k29 => k29) k28))) (r68_13 k27))))
noncomputable def r68_11 (k : KT R) : KT R := fun fr H => opn 33 fr (fun s0 s1 s4 s5 s6 s7 s8 s9 s10 s11 s12 s13 s14 s15 s16 s26 s33 s43 s51 s64 s98 s108 s124 s139 s143 s156 s160 s171 s175 s176 s177 s181 s183 => 
(k [s0, s1, s4, s5, s6, s7, s8, s9, s10, s11, (.int .i64 1), s13, s14, s15, s16, s26, s33, s43, s51, s64, s98, s108, s124, s139, s143, s156, s160, s171, s175, s176, s177, s181, s183] H : R))
noncomputable def r68_10 (k : KT R) : KT R := fun fr H => opn 33 fr (fun s0 s1 s4 s5 s6 s7 s8 s9 s10 s11 s12 s13 s14 s15 s16 s26 s33 s43 s51 s64 s98 s108 s124 s139 s143 s156 s160 s171 s175 s176 s177 s181 s183 => 
(qAdd X 3 s11 (.int .i64 1) fun v46 =>
qAdd X 3 s9 v46 fun v47 =>
k [s0, s1, s4, s5, s6, s7, s8, v47, s10, s11, s12, s13, s14, s15, s16, s26, s33, s43, s51, s64, s98, s108, s124, s139, s143, s156, s160, s171, s175, s176, s177, s181, s183] H : R))
noncomputable def r68_9 (k : KT R) : KT R := fun fr H => opn 33 fr (fun s0 s1 s4 s5 s6 s7 s8 s9 s10 s11 s12 s13 s14 s15 s16 s26 s33 s43 s51 s64 s98 s108 s124 s139 s143 s156 s160 s171 s175 s176 s177 s181 s183 => 
(k [s0, s1, (.int .i64 (-1)), s5, s6, s7, s8, s9, s10, s11, s12, s13, s14, s15, s16, s26, s33, s43, s51, s64, s98, s108, s124, s139, s143, s156, s160, s171, s175, s176, s177, s181, s183] H : R))
noncomputable def r68_8 (k : KT R) : KT R := fun fr H => opn 33 fr (fun s0 s1 s4 s5 s6 s7 s8 s9 s10 s11 s12 s13 s14 s15 s16 s26 s33 s43 s51 s64 s98 s108 s124 s139 s143 s156 s160 s171 s175 s176 s177 s181 s183 => 
(qLss X 3 s11 (.int .i64 0) fun v43 =>
k [s0, s1, s4, s5, s6, s7, s8, s9, s10, s11, s12, s13, s14, s15, s16, s26, s33, v43, s51, s64, s98, s108, s124, s139, s143, s156, s160, s171, s175, s176, s177, s181, s183] H : R))
noncomputable def r68_7 (C : CallF) (k : KT R) : KT R := fun fr H => opn 33 fr (fun s0 s1 s4 s5 s6 s7 s8 s9 s10 s11 s12 s13 s14 s15 s16 s26 s33 s43 s51 s64 s98 s108 s124 s139 s143 s156 s160 s171 s175 s176 s177 s181 s183 => 
(qAdd X 3 s9 (.int .i64 1) fun v36 =>
qSlc Tryz.t9.desc 0 s0 (some v36) none none fun v37 =>
qIx s7 s8 fun v40 =>
qRes (C 10 [v37, v40] H) fun v41 H =>
k [s0, s1, s4, s5, s6, s7, s8, s9, s10, v41, s12, s13, s14, s15, s16, s26, s33, s43, s51, s64, s98, s108, s124, s139, s143, s156, s160, s171, s175, s176, s177, s181, s183] H : R))
noncomputable def r68_6 (k : KT R) : KT R := fun fr H => opn 33 fr (fun s0 s1 s4 s5 s6 s7 s8 s9 s10 s11 s12 s13 s14 s15 s16 s26 s33 s43 s51 s64 s98 s108 s124 s139 s143 s156 s160 s171 s175 s176 s177 s181 s183 => 
(qIx s0 s9 fun v29 =>
qIx s7 s8 fun v32 =>
qNeq X 5 v29 v32 fun v33 =>
k [s0, s1, s4, s5, s6, s7, s8, s9, s10, s11, s12, s13, s14, s15, s16, s26, v33, s43, s51, s64, s98, s108, s124, s139, s143, s156, s160, s171, s175, s176, s177, s181, s183] H : R))
noncomputable def r68_5 (k : KT R) : KT R := fun fr H => opn 33 fr (fun s0 s1 s4 s5 s6 s7 s8 s9 s10 s11 s12 s13 s14 s15 s16 s26 s33 s43 s51 s64 s98 s108 s124 s139 s143 s156 s160 s171 s175 s176 s177 s181 s183 => 
(qLenS s0 fun v25 =>
qLss X 3 s9 v25 fun v26 =>
k [s0, s1, s4, s5, s6, s7, s8, s9, s10, s11, s12, s13, s14, s15, s16, v26, s33, s43, s51, s64, s98, s108, s124, s139, s143, s156, s160, s171, s175, s176, s177, s181, s183] H : R))
noncomputable def l68_33 (C : CallF) (k22 : KT R) (kr : KT R) : KT R → KT R := fun k23 => (r68_5 (qCd (sel 15) (fun k33 => k33) (fun _ => k22) (qBl (fun k24 => (r68_6 (qCd (sel 16) (fun k31 => (r68_7 C (r68_8 (qCd (sel 17) (fun _ => (r68_9 kr)) (fun k32 => k32) (r68_10 k31))))) (fun k31 => k31) (r68_11 (qBl (fun k26 => (qLoop (l68_30 k26))) (r68_15 kr)))))) k23)))
noncomputable def r68_4 (k : KT R) : KT R := fun fr H => opn 33 fr (fun s0 s1 s4 s5 s6 s7 s8 s9 s10 s11 s12 s13 s14 s15 s16 s26 s33 s43 s51 s64 s98 s108 s124 s139 s143 s156 s160 s171 s175 s176 s177 s181 s183 => 
(k [s0, s1, s4, s5, s6, s7, s8, s9, (.int .i64 0), s11, s12, s13, s14, s15, s16, s26, s33, s43, s51, s64, s98, s108, s124, s139, s143, s156, s160, s171, s175, s176, s177, s181, s183] H : R))
noncomputable def r68_3 (k : KT R) : KT R := fun fr H => opn 33 fr (fun s0 s1 s4 s5 s6 s7 s8 s9 s10 s11 s12 s13 s14 s15 s16 s26 s33 s43 s51 s64 s98 s108 s124 s139 s143 s156 s160 s171 s175 s176 s177 s181 s183 => 
(k [s0, s1, s4, s5, s6, s7, s8, s8, s10, s11, s12, s13, s14, s15, s16, s26, s33, s43, s51, s64, s98, s108, s124, s139, s143, s156, s160, s171, s175, s176, s177, s181, s183] H : R))
noncomputable def r68_2 (k : KT R) : KT R := fun fr H => opn 33 fr (fun s0 s1 s4 s5 s6 s7 s8 s9 s10 s11 s12 s13 s14 s15 s16 s26 s33 s43 s51 s64 s98 s108 s124 s139 s143 s156 s160 s171 s175 s176 s177 s181 s183 => 
(qLenS s7 fun v20 =>
qSub X 3 v20 (.int .i64 1) fun v21 =>
k [s0, s1, s4, s5, s6, s7, v21, s9, s10, s11, s12, s13, s14, s15, s16, s26, s33, s43, s51, s64, s98, s108, s124, s139, s143, s156, s160, s171, s175, s176, s177, s181, s183] H : R))
noncomputable def r68_1 (k : KT R) : KT R := fun fr H => opn 33 fr (fun s0 s1 s4 s5 s6 s7 s8 s9 s10 s11 s12 s13 s14 s15 s16 s26 s33 s43 s51 s64 s98 s108 s124 s139 s143 s156 s160 s171 s175 s176 s177 s181 s183 => 
(qO (conv X 21 9 s1) fun v18 =>
k [s0, s1, s4, s5, s6, v18, s8, s9, s10, s11, s12, s13, s14, s15, s16, s26, s33, s43, s51, s64, s98, s108, s124, s139, s143, s156, s160, s171, s175, s176, s177, s181, s183] H : R))
noncomputable def r68_43 (C : CallF) (k : KT R) : KT R := fun fr H => opn 33 fr (fun s0 s1 s4 s5 s6 s7 s8 s9 s10 s11 s12 s13 s14 s15 s16 s26 s33 s43 s51 s64 s98 s108 s124 s139 s143 s156 s160 s171 s175 s176 s177 s181 s183 => 
(qRes (C 85 [s1] H) fun v185 H =>
qNot v185 fun v186 =>
k [s0, s1, s4, s5, s6, s7, s8, s9, s10, s11, s12, s13, s14, s15, s16, s26, s33, s43, s51, s64, s98, s108, s124, s139, s143, s156, s160, s171, s175, s176, s177, s181, v186] H : R))
noncomputable def r68_36 (k : KT R) : KT R := fun fr H => opn 33 fr (fun s0 s1 s4 s5 s6 s7 s8 s9 s10 s11 s12 s13 s14 s15 s16 s26 s33 s43 s51 s64 s98 s108 s124 s139 s143 s156 s160 s171 s175 s176 s177 s181 s183 => 
(qEql X 21 s1 (.int .i32 65533) fun v173 =>
k [s0, s1, s4, s5, s6, s7, s8, s9, s10, s11, s12, s13, s14, s15, s16, s26, s33, s43, s51, s64, s98, s108, s124, s139, s143, s156, s160, v173, s175, s176, s177, s181, s183] H : R))
noncomputable def r68_34 (k : KT R) : KT R := fun fr H => opn 33 fr (fun s0 s1 s4 s5 s6 s7 s8 s9 s10 s11 s12 s13 s14 s15 s16 s26 s33 s43 s51 s64 s98 s108 s124 s139 s143 s156 s160 s171 s175 s176 s177 s181 s183 => 
(qLeq X 21 (.int .i32 0) s1 fun v162 =>
qG v162 true (fun k => k s1 H) H fun v164 H =>
qG v162 true (fun k => qLss X 21 v164 (.int .i32 128) fun v => k v H) H fun v165 H =>
qPick v162 v165 (.bool false) fun v166 =>
k [s0, s1, s4, s5, s6, s7, s8, s9, s10, s11, s12, s13, s14, s15, s16, s26, s33, s43, s51, s64, s98, s108, s124, s139, s143, s156, v166, s171, s175, s176, s177, s181, s183] H : R))
noncomputable def r68_0 (k : KT R) : KT R := fun fr H => opn 33 fr (fun s0 s1 s4 s5 s6 s7 s8 s9 s10 s11 s12 s13 s14 s15 s16 s26 s33 s43 s51 s64 s98 s108 s124 s139 s143 s156 s160 s171 s175 s176 s177 s181 s183 => 
(k [s0, s1, (.int .i64 0), s5, s6, s7, s8, s9, s10, s11, s12, s13, s14, s15, s16, s26, s33, s43, s51, s64, s98, s108, s124, s139, s143, s156, s160, s171, s175, s176, s177, s181, s183] H : R))
noncomputable def c68 (C : CallF) (l0 : List AV) (H : AH) (k : AV → AH → R) : R := opn 2 l0 (fun x0 x1 => (qFn (fun kr => (r68_0 (qBl (fun k1 => (r68_34 (qCd (sel 26) (fun _ => (r68_35 C kr)) (fun k2 => (r68_36 (qCd (sel 27) (fun _ => (r68_37 (qBl (fun k4 => (qLoop (l68_8 k4 kr))) (r68_42 kr)))) (fun k3 => (r68_43 C (qCd (sel 32) (fun _ => (r68_44 kr)) (fun _ => (r68_1 (r68_2 (r68_3 (r68_4 (qBl (fun k22 => (qLoop (l68_33 C k22 kr))) (r68_19 kr))))))) k3))) k2))) k1))) kr)))
(fun fr H => k (sel 2 fr) H) [x0, x1, Aes.undef, Aes.undef, Aes.undef, Aes.undef, Aes.undef, Aes.undef, Aes.undef, Aes.undef, Aes.undef, Aes.undef, Aes.undef, Aes.undef, Aes.undef, Aes.undef, Aes.undef, Aes.undef, Aes.undef, Aes.undef, Aes.undef, Aes.undef, Aes.undef, Aes.undef, Aes.undef, Aes.undef, Aes.undef, Aes.undef, Aes.undef, Aes.undef, Aes.undef, Aes.undef, Aes.undef] H : R))
/- strings.shouldUseASCIISet -/
noncomputable def r69_1 (k : KT R) : KT R := fun fr H => opn 2 fr (fun s0 s2 => 
(qGtr X 3 s0 (.int .i64 8) fun v4 =>
k [s0, v4] H : R))
noncomputable def r69_0 (k : KT R) : KT R := fun fr H => opn 2 fr (fun s0 s2 => 
(k [s0, (.bool false)] H : R))
noncomputable def c69 (C : CallF) (l0 : List AV) (H : AH) (k : AV → AH → R) : R := opn 1 l0 (fun x0 => (qFn (fun kr => (r69_0 (r69_1 kr)))
(fun fr H => k (sel 1 fr) H) [x0, Aes.undef] H : R))
/- (*strings.asciiSet).contains -/
noncomputable def r70_1 (k : KT R) : KT R := fun fr H => opn 3 fr (fun s0 s1 s4 => 
(qNc s0 fun v7 =>
qIaA 256 1 v7 s1 fun v8 =>
qLd v8 H fun v9 =>
k [s0, s1, v9] H : R))
noncomputable def r70_0 (k : KT R) : KT R := fun fr H => opn 3 fr (fun s0 s1 s4 => 
(k [s0, s1, (.bool false)] H : R))
noncomputable def c70 (C : CallF) (l0 : List AV) (H : AH) (k : AV → AH → R) : R := opn 2 l0 (fun x0 x1 => (qFn (fun kr => (r70_0 (r70_1 kr)))
(fun fr H => k (sel 2 fr) H) [x0, x1, Aes.undef] H : R))
/- unicode/utf8.AppendRune -/
noncomputable def r71_3 (C : CallF) (k : KT R) : KT R := fun fr H => opn 4 fr (fun s0 s1 s4 s7 => 
(qRes (C 88 [s0, s1] H) fun v15 H =>
k [s0, s1, v15, s7] H : R))
noncomputable def r71_2 (k : KT R) : KT R := fun fr H => opn 4 fr (fun s0 s1 s4 s7 => 
(qConvI .u8 s1 fun v10 =>
qRows z5 1 [(0, v10)] fun v11 =>
qApp 1 1 s0 v11 true (some 5) H fun v12 H =>
k [s0, s1, v12, s7] H : R))
noncomputable def r71_1 (k : KT R) : KT R := fun fr H => opn 4 fr (fun s0 s1 s4 s7 => 
(qConvI .u32 s1 fun v6 =>
qLeq X 110 v6 (.int .u32 127) fun v7 =>
k [s0, s1, s4, v7] H : R))
noncomputable def r71_0 (k : KT R) : KT R := fun fr H => opn 4 fr (fun s0 s1 s4 s7 => 
(k [s0, s1, (.sl [] .nil), s7] H : R))
noncomputable def c71 (C : CallF) (l0 : List AV) (H : AH) (k : AV → AH → R) : R := opn 2 l0 (fun x0 x1 => (qFn (fun kr => (r71_0 (r71_1 (qCd (sel 3) (fun _ => (r71_2 kr)) (fun k1 => k1) (r71_3 C kr)))))
(fun fr H => k (sel 2 fr) H) [x0, x1, Aes.undef, Aes.undef] H : R))
/- refectory/runes.four -/
noncomputable def r72_11 (k : KT R) : KT R := fun fr H => opn 10 fr (fun s0 s2 s3 s5 s6 s9 s13 s14 s15 s20 => 
(k [s0, s3, s3, s5, s6, s9, s13, s14, s15, s20] H : R))
noncomputable def r72_10 (k : KT R) : KT R := fun fr H => opn 10 fr (fun s0 s2 s3 s5 s6 s9 s13 s14 s15 s20 => 
(qO (binop X .shl 21 s3 (.int .u64 4)) fun v22 =>
qConvI .i32 s6 fun v24 =>
qO (binop X .or 21 v22 v24) fun v25 =>
k [s0, s2, v25, s5, s6, s9, s13, s14, s15, s20] H : R))
noncomputable def r72_9 (k : KT R) : KT R := fun fr H => opn 10 fr (fun s0 s2 s3 s5 s6 s9 s13 s14 s15 s20 => 
(k [s0, (.int .i32 (-1)), s3, s5, s6, s9, s13, s14, s15, s20] H : R))
noncomputable def r72_8 (k : KT R) : KT R := fun fr H => opn 10 fr (fun s0 s2 s3 s5 s6 s9 s13 s14 s15 s20 => 
(qLss X 3 s6 (.int .i64 0) fun v20 =>
k [s0, s2, s3, s5, s6, s9, s13, s14, s15, v20] H : R))
noncomputable def r72_7 (C : CallF) (k : KT R) : KT R := fun fr H => opn 10 fr (fun s0 s2 s3 s5 s6 s9 s13 s14 s15 s20 => 
(qRes (C 68 [(.str [48,49,50,51,52,53,54,55,56,57,97,98,99,100,101,102]), s5] H) fun v18 H =>
k [s0, s2, s3, s5, v18, s9, s13, s14, s15, s20] H : R))
noncomputable def r72_6 (k : KT R) : KT R := fun fr H => opn 10 fr (fun s0 s2 s3 s5 s6 s9 s13 s14 s15 s20 => 
(qExt s14 2 fun v16 =>
k [s0, s2, s3, v16, s6, s9, s13, s14, s15, s20] H : R))
noncomputable def r72_5 (k : KT R) : KT R := fun fr H => opn 10 fr (fun s0 s2 s3 s5 s6 s9 s13 s14 s15 s20 => 
(qNext s13 H fun v14 H =>
qExt v14 0 fun v15 =>
k [s0, s2, s3, s5, s6, s9, s13, v14, v15, s20] H : R))
noncomputable def l72_5 (C : CallF) (k1 : KT R) (kr : KT R) : KT R → KT R := fun k2 => (r72_5 (qCd (sel 8) (fun k5 => k5) (fun _ => k1) (qBl (fun k3 => (r72_6 (r72_7 C (r72_8 (qCd (sel 9) (fun _ => (r72_9 kr)) (fun k4 => k4) (r72_10 k3)))))) k2)))
noncomputable def r72_4 (C : CallF) (k : KT R) : KT R := fun fr H => opn 10 fr (fun s0 s2 s3 s5 s6 s9 s13 s14 s15 s20 => 
(qSlc Tryz.t9.desc 0 s0 none (some (.int .i64 4)) none fun v11 =>
qRes (C 89 [v11] H) fun v12 H =>
qRange v12 H fun v13 H =>
k [s0, s2, s3, s5, s6, s9, v13, s14, s15, s20] H : R))
noncomputable def r72_3 (k : KT R) : KT R := fun fr H => opn 10 fr (fun s0 s2 s3 s5 s6 s9 s13 s14 s15 s20 => 
(k [s0, s2, (.int .i32 0), s5, s6, s9, s13, s14, s15, s20] H : R))
noncomputable def r72_2 (k : KT R) : KT R := fun fr H => opn 10 fr (fun s0 s2 s3 s5 s6 s9 s13 s14 s15 s20 => 
(k [s0, (.int .i32 (-1)), s3, s5, s6, s9, s13, s14, s15, s20] H : R))
noncomputable def r72_1 (k : KT R) : KT R := fun fr H => opn 10 fr (fun s0 s2 s3 s5 s6 s9 s13 s14 s15 s20 => 
(qLenS s0 fun v8 =>
qLss X 3 v8 (.int .i64 4) fun v9 =>
k [s0, s2, s3, s5, s6, v9, s13, s14, s15, s20] H : R))
noncomputable def r72_0 (k : KT R) : KT R := fun fr H => opn 10 fr (fun s0 s2 s3 s5 s6 s9 s13 s14 s15 s20 => 
(k [s0, (.int .i32 0), s3, s5, s6, s9, s13, s14, s15, s20] H : R))
noncomputable def c72 (C : CallF) (l0 : List AV) (H : AH) (k : AV → AH → R) : R := opn 1 l0 (fun x0 => (qFn (fun kr => (r72_0 (r72_1 (qCd (sel 5) (fun _ => (r72_2 kr)) (fun k6 => k6) (r72_3 (r72_4 C (qBl (fun k1 => (qLoop (l72_5 C k1 kr))) (r72_11 kr))))))))
(fun fr H => k (sel 1 fr) H) [x0, Aes.undef, Aes.undef, Aes.undef, Aes.undef, Aes.undef, Aes.undef, Aes.undef, Aes.undef, Aes.undef] H : R))
/- refectory/refectoryref01.lines -/
noncomputable def r73_11 (k : KT R) : KT R := fun fr H => opn 8 fr (fun s0 s2 s3 s4 s5 s9 s21 s46 => 
(qSlc Tryz.t9.desc 0 s0 (some s4) none none fun v54 =>
qRows z9 1 [(0, v54)] fun v55 =>
qApp 1 16 s3 v55 true none H fun v56 H =>
k [s0, v56, s3, s4, s5, s9, s21, s46] H : R))
noncomputable def r73_5 (k : KT R) : KT R := fun fr H => opn 8 fr (fun s0 s2 s3 s4 s5 s9 s21 s46 => 
(qAdd X 3 s5 (.int .i64 1) fun v11 =>
k [s0, s2, s3, s4, v11, s9, s21, s46] H : R))
noncomputable def r73_10 (k : KT R) : KT R := fun fr H => opn 8 fr (fun s0 s2 s3 s4 s5 s9 s21 s46 => 
(qAdd X 3 s5 (.int .i64 1) fun v50 =>
k [s0, s2, s3, v50, s5, s9, s21, s46] H : R))
noncomputable def r73_9 (k : KT R) : KT R := fun fr H => opn 8 fr (fun s0 s2 s3 s4 s5 s9 s21 s46 => 
(qAdd X 3 s5 (.int .i64 1) fun v48 =>
k [s0, s2, s3, s4, v48, s9, s21, s46] H : R))
noncomputable def r73_8 (k : KT R) : KT R := fun fr H => opn 8 fr (fun s0 s2 s3 s4 s5 s9 s21 s46 => 
(qIx s0 s5 fun v31 =>
qEql X 5 v31 (.int .u8 13) fun v32 =>
qG v32 true (fun k => k s5 H) H fun v34 H =>
qG v32 true (fun k => qAdd X 3 v34 (.int .i64 1) fun v => k v H) H fun v35 H =>
qG v32 true (fun k => k s0 H) H fun v36 H =>
qG v32 true (fun k => qLenS v36 fun v => k v H) H fun v37 H =>
qG v32 true (fun k => qLss X 3 v35 v37 fun v => k v H) H fun v38 H =>
qPick v32 v38 (.bool false) fun v39 =>
qG v39 true (fun k => k s0 H) H fun v41 H =>
qG v39 true (fun k => k s5 H) H fun v42 H =>
qG v39 true (fun k => qAdd X 3 v42 (.int .i64 1) fun v => k v H) H fun v43 H =>
qG v39 true (fun k => qIx v41 v43 fun v => k v H) H fun v44 H =>
qG v39 true (fun k => qEql X 5 v44 (.int .u8 10) fun v => k v H) H fun v45 H =>
qPick v39 v45 (.bool false) fun v46 =>
k [s0, s2, s3, s4, s5, s9, s21, v46] H : R))
noncomputable def r73_7 (k : KT R) : KT R := fun fr H => opn 8 fr (fun s0 s2 s3 s4 s5 s9 s21 s46 => 
(qSlc Tryz.t9.desc 0 s0 (some s4) (some s5) none fun v26 =>
qRows z9 1 [(0, v26)] fun v27 =>
qApp 1 16 s3 v27 true none H fun v28 H =>
k [s0, s2, v28, s4, s5, s9, s21, s46] H : R))
noncomputable def r73_6 (k : KT R) : KT R := fun fr H => opn 8 fr (fun s0 s2 s3 s4 s5 s9 s21 s46 => 
(qIx s0 s5 fun v14 =>
qNeq X 5 v14 (.int .u8 10) fun v15 =>
qG v15 true (fun k => k s0 H) H fun v17 H =>
qG v15 true (fun k => k s5 H) H fun v18 H =>
qG v15 true (fun k => qIx v17 v18 fun v => k v H) H fun v19 H =>
qG v15 true (fun k => qNeq X 5 v19 (.int .u8 13) fun v => k v H) H fun v20 H =>
qPick v15 v20 (.bool false) fun v21 =>
k [s0, s2, s3, s4, s5, s9, v21, s46] H : R))
noncomputable def r73_4 (k : KT R) : KT R := fun fr H => opn 8 fr (fun s0 s2 s3 s4 s5 s9 s21 s46 => 
(qLenS s0 fun v8 =>
qLss X 3 s5 v8 fun v9 =>
k [s0, s2, s3, s4, s5, v9, s21, s46] H : R))
noncomputable def l73_6 (k1 : KT R) : KT R → KT R := fun k2 => (r73_4 (qCd (sel 5) (fun k6 => k6) (fun _ => k1) (qBl (fun k3 => (r73_6 (qCd (sel 6) (fun _ => k3) (fun k5 => k5) (r73_7 (r73_8 (qCd (sel 7) (fun k4 => (r73_9 k4)) (fun k4 => k4) (r73_10 k3))))))) (r73_5 k2))))
noncomputable def r73_3 (k : KT R) : KT R := fun fr H => opn 8 fr (fun s0 s2 s3 s4 s5 s9 s21 s46 => 
(k [s0, s2, s3, s4, (.int .i64 0), s9, s21, s46] H : R))
noncomputable def r73_2 (k : KT R) : KT R := fun fr H => opn 8 fr (fun s0 s2 s3 s4 s5 s9 s21 s46 => 
(k [s0, s2, s3, (.int .i64 0), s5, s9, s21, s46] H : R))
noncomputable def r73_1 (k : KT R) : KT R := fun fr H => opn 8 fr (fun s0 s2 s3 s4 s5 s9 s21 s46 => 
(k [s0, s2, (.sl [] .nil), s4, s5, s9, s21, s46] H : R))
noncomputable def r73_0 (k : KT R) : KT R := fun fr H => opn 8 fr (fun s0 s2 s3 s4 s5 s9 s21 s46 => 
(k [s0, (.sl [] .nil), s3, s4, s5, s9, s21, s46] H : R))
noncomputable def c73 (C : CallF) (l0 : List AV) (H : AH) (k : AV → AH → R) : R := opn 1 l0 (fun x0 => (qFn (fun kr => (r73_0 (r73_1 (r73_2 (r73_3 (qBl (fun k1 => (qLoop (l73_6 k1))) (r73_11 kr)))))))
(fun fr H => k (sel 1 fr) H) [x0, Aes.undef, Aes.undef, Aes.undef, Aes.undef, Aes.undef, Aes.undef, Aes.undef] H : R))
/- refectory/refectoryref01.blank -/
noncomputable def r74_4 (k : KT R) : KT R := fun fr H => opn 4 fr (fun s0 s2 s3 s19 => 
(k [s0, s3, s3, s19] H : R))
noncomputable def r74_3 (k : KT R) : KT R := fun fr H => opn 4 fr (fun s0 s2 s3 s19 => 
(qAdd X 3 s3 (.int .i64 1) fun v21 =>
k [s0, s2, v21, s19] H : R))
noncomputable def r74_2 (k : KT R) : KT R := fun fr H => opn 4 fr (fun s0 s2 s3 s19 => 
(qLenS s0 fun v6 =>
qLss X 3 s3 v6 fun v7 =>
qG v7 true (fun k => k s0 H) H fun v9 H =>
qG v7 true (fun k => k s3 H) H fun v10 H =>
qG v7 true (fun k => qIx v9 v10 fun v => k v H) H fun v11 H =>
qG v7 true (fun k => qEql X 5 v11 (.int .u8 32) fun v => k v H) H fun v12 H =>
qG v7 true (fun k => k v12 H) H fun v13 H =>
qG v13 false (fun k => k s0 H) H fun v14 H =>
qG v13 false (fun k => k s3 H) H fun v15 H =>
qG v13 false (fun k => qIx v14 v15 fun v => k v H) H fun v16 H =>
qG v13 false (fun k => qEql X 5 v16 (.int .u8 9) fun v => k v H) H fun v17 H =>
qG v7 true (fun k => qPick v13 (.bool true) v17 fun v => k v H) H fun v18 H =>
qPick v7 v18 (.bool false) fun v19 =>
k [s0, s2, s3, v19] H : R))
noncomputable def l74_4 (k1 : KT R) : KT R → KT R := fun k2 => (r74_2 (qCd (sel 3) (fun k4 => k4) (fun _ => k1) (qBl (fun k3 => (r74_3 k3)) k2)))
noncomputable def r74_1 (k : KT R) : KT R := fun fr H => opn 4 fr (fun s0 s2 s3 s19 => 
(k [s0, s2, (.int .i64 0), s19] H : R))
noncomputable def r74_0 (k : KT R) : KT R := fun fr H => opn 4 fr (fun s0 s2 s3 s19 => 
(k [s0, (.int .i64 0), s3, s19] H : R))
noncomputable def c74 (C : CallF) (l0 : List AV) (H : AH) (k : AV → AH → R) : R := opn 1 l0 (fun x0 => (qFn (fun kr => (r74_0 (r74_1 (qBl (fun k1 => (qLoop (l74_4 k1))) (r74_4 kr)))))
(fun fr H => k (sel 1 fr) H) [x0, Aes.undef, Aes.undef, Aes.undef] H : R))
/- refectory/refectoryref01.rune1 -/
noncomputable def r75_22 (k : KT R) : KT R := fun fr H => opn 16 fr (fun s0 s1 s4 s5 s6 s7 s8 s9 s14 s18 s27 s36 s50 s53 s62 s98 => 
(k [s0, s1, s8, s7, s6, s7, s8, s9, s14, s18, s27, s36, s50, s53, s62, s98] H : R))
noncomputable def r75_21 (k : KT R) : KT R := fun fr H => opn 16 fr (fun s0 s1 s4 s5 s6 s7 s8 s9 s14 s18 s27 s36 s50 s53 s62 s98 => 
(k [s0, s1, (.int .i64 0), (.int .i64 0), s6, s7, s8, s9, s14, s18, s27, s36, s50, s53, s62, s98] H : R))
noncomputable def r75_20 (k : KT R) : KT R := fun fr H => opn 16 fr (fun s0 s1 s4 s5 s6 s7 s8 s9 s14 s18 s27 s36 s50 s53 s62 s98 => 
(qEql X 3 s7 (.int .i64 3) fun v74 =>
qG v74 true (fun k => k s8 H) H fun v76 H =>
qG v74 true (fun k => qLss X 3 v76 (.int .i64 2048) fun v => k v H) H fun v77 H =>
qPick v74 v77 (.bool false) fun v78 =>
qG v78 false (fun k => k s7 H) H fun v80 H =>
qG v78 false (fun k => qEql X 3 v80 (.int .i64 4) fun v => k v H) H fun v81 H =>
qG v78 false (fun k => k v81 H) H fun v82 H =>
qG v82 true (fun k => k s8 H) H fun v83 H =>
qG v82 true (fun k => qLss X 3 v83 (.int .i64 65536) fun v => k v H) H fun v84 H =>
qG v82 true (fun k => k v84 H) H fun v85 H =>
qG v85 false (fun k => k s8 H) H fun v86 H =>
qG v85 false (fun k => qGtr X 3 v86 (.int .i64 1114111) fun v => k v H) H fun v87 H =>
qG v82 true (fun k => qPick v85 (.bool true) v87 fun v => k v H) H fun v88 H =>
qG v78 false (fun k => qPick v82 v88 (.bool false) fun v => k v H) H fun v89 H =>
qPick v78 (.bool true) v89 fun v90 =>
qG v90 false (fun k => k s8 H) H fun v92 H =>
qG v90 false (fun k => qGeq X 3 v92 (.int .i64 55296) fun v => k v H) H fun v93 H =>
qG v90 false (fun k => k v93 H) H fun v94 H =>
qG v94 true (fun k => k s8 H) H fun v95 H =>
qG v94 true (fun k => qLeq X 3 v95 (.int .i64 57343) fun v => k v H) H fun v96 H =>
qG v90 false (fun k => qPick v94 v96 (.bool false) fun v => k v H) H fun v97 H =>
qPick v90 (.bool true) v97 fun v98 =>
k [s0, s1, s4, s5, s6, s7, s8, s9, s14, s18, s27, s36, s50, s53, s62, v98] H : R))
noncomputable def r75_16 (k : KT R) : KT R := fun fr H => opn 16 fr (fun s0 s1 s4 s5 s6 s7 s8 s9 s14 s18 s27 s36 s50 s53 s62 s98 => 
(qAdd X 3 s9 (.int .i64 1) fun v55 =>
k [s0, s1, s4, s5, s6, s7, s8, v55, s14, s18, s27, s36, s50, s53, s62, s98] H : R))
noncomputable def r75_19 (k : KT R) : KT R := fun fr H => opn 16 fr (fun s0 s1 s4 s5 s6 s7 s8 s9 s14 s18 s27 s36 s50 s53 s62 s98 => 
(qO (binop X .shl 3 s8 (.int .u64 6)) fun v64 =>
qAdd X 3 s1 s9 fun v68 =>
qIx s0 v68 fun v69 =>
qO (binop X .and 5 v69 (.int .u8 63)) fun v70 =>
qConvI .i64 v70 fun v71 =>
qO (binop X .or 3 v64 v71) fun v72 =>
k [s0, s1, s4, s5, s6, s7, v72, s9, s14, s18, s27, s36, s50, s53, s62, s98] H : R))
noncomputable def r75_18 (k : KT R) : KT R := fun fr H => opn 16 fr (fun s0 s1 s4 s5 s6 s7 s8 s9 s14 s18 s27 s36 s50 s53 s62 s98 => 
(k [s0, s1, (.int .i64 0), (.int .i64 0), s6, s7, s8, s9, s14, s18, s27, s36, s50, s53, s62, s98] H : R))
noncomputable def r75_17 (k : KT R) : KT R := fun fr H => opn 16 fr (fun s0 s1 s4 s5 s6 s7 s8 s9 s14 s18 s27 s36 s50 s53 s62 s98 => 
(qAdd X 3 s1 s9 fun v59 =>
qIx s0 v59 fun v60 =>
qO (binop X .and 5 v60 (.int .u8 192)) fun v61 =>
qNeq X 5 v61 (.int .u8 128) fun v62 =>
k [s0, s1, s4, s5, s6, s7, s8, s9, s14, s18, s27, s36, s50, s53, v62, s98] H : R))
noncomputable def r75_15 (k : KT R) : KT R := fun fr H => opn 16 fr (fun s0 s1 s4 s5 s6 s7 s8 s9 s14 s18 s27 s36 s50 s53 s62 s98 => 
(qLss X 3 s9 s7 fun v53 =>
k [s0, s1, s4, s5, s6, s7, s8, s9, s14, s18, s27, s36, s50, v53, s62, s98] H : R))
noncomputable def l75_6 (k2 : KT R) (kr : KT R) : KT R → KT R := fun k3 => (r75_15 (qCd (sel 13) (fun k6 => k6) (fun _ => k2) (qBl (fun k4 => (r75_17 (qCd (sel 14) (fun _ => (r75_18 kr)) (fun k5 => k5) (r75_19 k4)))) (r75_16 k3))))
noncomputable def r75_14 (k : KT R) : KT R := fun fr H => opn 16 fr (fun s0 s1 s4 s5 s6 s7 s8 s9 s14 s18 s27 s36 s50 s53 s62 s98 => 
(k [s0, s1, s4, s5, s6, s7, s8, (.int .i64 1), s14, s18, s27, s36, s50, s53, s62, s98] H : R))
noncomputable def r75_13 (k : KT R) : KT R := fun fr H => opn 16 fr (fun s0 s1 s4 s5 s6 s7 s8 s9 s14 s18 s27 s36 s50 s53 s62 s98 => 
(k [s0, s1, (.int .i64 0), (.int .i64 0), s6, s7, s8, s9, s14, s18, s27, s36, s50, s53, s62, s98] H : R))
noncomputable def r75_12 (k : KT R) : KT R := fun fr H => opn 16 fr (fun s0 s1 s4 s5 s6 s7 s8 s9 s14 s18 s27 s36 s50 s53 s62 s98 => 
(qAdd X 3 s1 s7 fun v47 =>
qLenS s0 fun v49 =>
qGtr X 3 v47 v49 fun v50 =>
k [s0, s1, s4, s5, s6, s7, s8, s9, s14, s18, s27, s36, v50, s53, s62, s98] H : R))
noncomputable def r75_5 (k : KT R) : KT R := fun fr H => opn 16 fr (fun s0 s1 s4 s5 s6 s7 s8 s9 s14 s18 s27 s36 s50 s53 s62 s98 => 
(k [s0, s1, s6, (.int .i64 1), s6, s7, s8, s9, s14, s18, s27, s36, s50, s53, s62, s98] H : R))
noncomputable def r75_7 (k : KT R) : KT R := fun fr H => opn 16 fr (fun s0 s1 s4 s5 s6 s7 s8 s9 s14 s18 s27 s36 s50 s53 s62 s98 => 
(qO (binop X .and 3 s6 (.int .i64 31)) fun v26 =>
k [s0, s1, s4, s5, s6, (.int .i64 2), v26, s9, s14, s18, s27, s36, s50, s53, s62, s98] H : R))
noncomputable def r75_9 (k : KT R) : KT R := fun fr H => opn 16 fr (fun s0 s1 s4 s5 s6 s7 s8 s9 s14 s18 s27 s36 s50 s53 s62 s98 => 
(qO (binop X .and 3 s6 (.int .i64 15)) fun v35 =>
k [s0, s1, s4, s5, s6, (.int .i64 3), v35, s9, s14, s18, s27, s36, s50, s53, s62, s98] H : R))
noncomputable def r75_11 (k : KT R) : KT R := fun fr H => opn 16 fr (fun s0 s1 s4 s5 s6 s7 s8 s9 s14 s18 s27 s36 s50 s53 s62 s98 => 
(qO (binop X .and 3 s6 (.int .i64 7)) fun v44 =>
k [s0, s1, s4, s5, s6, (.int .i64 4), v44, s9, s14, s18, s27, s36, s50, s53, s62, s98] H : R))
noncomputable def r75_3 (k : KT R) : KT R := fun fr H => opn 16 fr (fun s0 s1 s4 s5 s6 s7 s8 s9 s14 s18 s27 s36 s50 s53 s62 s98 => 
(k [s0, s1, (.int .i64 0), (.int .i64 0), s6, s7, s8, s9, s14, s18, s27, s36, s50, s53, s62, s98] H : R))
noncomputable def r75_10 (k : KT R) : KT R := fun fr H => opn 16 fr (fun s0 s1 s4 s5 s6 s7 s8 s9 s14 s18 s27 s36 s50 s53 s62 s98 => 
(qGeq X 3 s6 (.int .i64 240) fun v38 =>
qG v38 true (fun k => k s6 H) H fun v40 H =>
qG v38 true (fun k => qLeq X 3 v40 (.int .i64 244) fun v => k v H) H fun v41 H =>
qPick v38 v41 (.bool false) fun v42 =>
k [s0, s1, s4, s5, s6, s7, s8, s9, s14, s18, s27, v42, s50, s53, s62, s98] H : R))
noncomputable def r75_8 (k : KT R) : KT R := fun fr H => opn 16 fr (fun s0 s1 s4 s5 s6 s7 s8 s9 s14 s18 s27 s36 s50 s53 s62 s98 => 
(qGeq X 3 s6 (.int .i64 224) fun v29 =>
qG v29 true (fun k => k s6 H) H fun v31 H =>
qG v29 true (fun k => qLeq X 3 v31 (.int .i64 239) fun v => k v H) H fun v32 H =>
qPick v29 v32 (.bool false) fun v33 =>
k [s0, s1, s4, s5, s6, s7, s8, s9, s14, s18, v33, s36, s50, s53, s62, s98] H : R))
noncomputable def r75_6 (k : KT R) : KT R := fun fr H => opn 16 fr (fun s0 s1 s4 s5 s6 s7 s8 s9 s14 s18 s27 s36 s50 s53 s62 s98 => 
(qGeq X 3 s6 (.int .i64 194) fun v20 =>
qG v20 true (fun k => k s6 H) H fun v22 H =>
qG v20 true (fun k => qLeq X 3 v22 (.int .i64 223) fun v => k v H) H fun v23 H =>
qPick v20 v23 (.bool false) fun v24 =>
k [s0, s1, s4, s5, s6, s7, s8, s9, s14, v24, s27, s36, s50, s53, s62, s98] H : R))
noncomputable def r75_4 (k : KT R) : KT R := fun fr H => opn 16 fr (fun s0 s1 s4 s5 s6 s7 s8 s9 s14 s18 s27 s36 s50 s53 s62 s98 => 
(qLss X 3 s6 (.int .i64 128) fun v16 =>
k [s0, s1, s4, s5, s6, s7, s8, s9, v16, s18, s27, s36, s50, s53, s62, s98] H : R))
noncomputable def r75_2 (k : KT R) : KT R := fun fr H => opn 16 fr (fun s0 s1 s4 s5 s6 s7 s8 s9 s14 s18 s27 s36 s50 s53 s62 s98 => 
(k [s0, s1, s4, s5, s6, (.int .i64 0), (.int .i64 0), s9, s14, s18, s27, s36, s50, s53, s62, s98] H : R))
noncomputable def r75_1 (k : KT R) : KT R := fun fr H => opn 16 fr (fun s0 s1 s4 s5 s6 s7 s8 s9 s14 s18 s27 s36 s50 s53 s62 s98 => 
(qIx s0 s1 fun v12 =>
qConvI .i64 v12 fun v13 =>
k [s0, s1, s4, s5, v13, s7, s8, s9, s14, s18, s27, s36, s50, s53, s62, s98] H : R))
noncomputable def r75_0 (k : KT R) : KT R := fun fr H => opn 16 fr (fun s0 s1 s4 s5 s6 s7 s8 s9 s14 s18 s27 s36 s50 s53 s62 s98 => 
(k [s0, s1, (.int .i64 0), (.int .i64 0), s6, s7, s8, s9, s14, s18, s27, s36, s50, s53, s62, s98] H : R))
noncomputable def c75 (C : CallF) (l0 : List AV) (H : AH) (k : AV → AH → R) : R := opn 2 l0 (fun x0 x1 => (qFn (fun kr => (r75_0 (r75_1 (r75_2 (qBl (fun k8 => (r75_4 (qCd (sel 8) (fun _ => (r75_5 kr)) (fun k9 => (r75_6 (qCd (sel 9) (fun k10 => (r75_7 k10)) (fun k10 => (r75_8 (qCd (sel 10) (fun k11 => (r75_9 k11)) (fun k11 => (r75_10 (qCd (sel 11) (fun k12 => (r75_11 k12)) (fun _ => (r75_3 kr)) k11))) k10))) k9))) k8))) (r75_12 (qCd (sel 12) (fun _ => (r75_13 kr)) (fun k7 => k7) (r75_14 (qBl (fun k2 => (qLoop (l75_6 k2 kr))) (r75_20 (qCd (sel 15) (fun _ => (r75_21 kr)) (fun k1 => k1) (r75_22 kr))))))))))))
(fun fr H => k (.tup [(sel 2 fr), (sel 3 fr)]) H) [x0, x1, Aes.undef, Aes.undef, Aes.undef, Aes.undef, Aes.undef, Aes.undef, Aes.undef, Aes.undef, Aes.undef, Aes.undef, Aes.undef, Aes.undef, Aes.undef, Aes.undef] H : R))
/- refectory/refectoryref01.Hex -/
noncomputable def r76_15 (k : KT R) : KT R := fun fr H => opn 11 fr (fun s0 s1 s4 s5 s6 s7 s12 s17 s23 s32 s46 => 
(k [s0, s1, s5, s5, s6, s7, s12, s17, s23, s32, s46] H : R))
noncomputable def r76_6 (k : KT R) : KT R := fun fr H => opn 11 fr (fun s0 s1 s4 s5 s6 s7 s12 s17 s23 s32 s46 => 
(qAdd X 3 s6 (.int .i64 1) fun v19 =>
k [s0, s1, s4, s5, v19, s7, s12, s17, s23, s32, s46] H : R))
noncomputable def r76_10 (k : KT R) : KT R := fun fr H => opn 11 fr (fun s0 s1 s4 s5 s6 s7 s12 s17 s23 s32 s46 => 
(qMul X 3 (.int .i64 16) s5 fun v27 =>
qSub X 5 s7 (.int .u8 48) fun v29 =>
qConvI .i64 v29 fun v30 =>
qAdd X 3 v27 v30 fun v31 =>
k [s0, s1, s4, v31, s6, s7, s12, s17, s23, s32, s46] H : R))
noncomputable def r76_12 (k : KT R) : KT R := fun fr H => opn 11 fr (fun s0 s1 s4 s5 s6 s7 s12 s17 s23 s32 s46 => 
(qMul X 3 (.int .i64 16) s5 fun v40 =>
qSub X 5 s7 (.int .u8 97) fun v42 =>
qConvI .i64 v42 fun v43 =>
qAdd X 3 v40 v43 fun v44 =>
qAdd X 3 v44 (.int .i64 10) fun v45 =>
k [s0, s1, s4, v45, s6, s7, s12, s17, s23, s32, s46] H : R))
noncomputable def r76_14 (k : KT R) : KT R := fun fr H => opn 11 fr (fun s0 s1 s4 s5 s6 s7 s12 s17 s23 s32 s46 => 
(qMul X 3 (.int .i64 16) s5 fun v54 =>
qSub X 5 s7 (.int .u8 65) fun v56 =>
qConvI .i64 v56 fun v57 =>
qAdd X 3 v54 v57 fun v58 =>
qAdd X 3 v58 (.int .i64 10) fun v59 =>
k [s0, s1, s4, v59, s6, s7, s12, s17, s23, s32, s46] H : R))
noncomputable def r76_8 (k : KT R) : KT R := fun fr H => opn 11 fr (fun s0 s1 s4 s5 s6 s7 s12 s17 s23 s32 s46 => 
(k [s0, s1, (.int .i64 (-1)), s5, s6, s7, s12, s17, s23, s32, s46] H : R))
noncomputable def r76_13 (k : KT R) : KT R := fun fr H => opn 11 fr (fun s0 s1 s4 s5 s6 s7 s12 s17 s23 s32 s46 => 
(qGeq X 5 s7 (.int .u8 65) fun v48 =>
qG v48 true (fun k => k s7 H) H fun v50 H =>
qG v48 true (fun k => qLeq X 5 v50 (.int .u8 70) fun v => k v H) H fun v51 H =>
qPick v48 v51 (.bool false) fun v52 =>
k [s0, s1, s4, s5, s6, s7, s12, s17, s23, s32, v52] H : R))
noncomputable def r76_11 (k : KT R) : KT R := fun fr H => opn 11 fr (fun s0 s1 s4 s5 s6 s7 s12 s17 s23 s32 s46 => 
(qGeq X 5 s7 (.int .u8 97) fun v34 =>
qG v34 true (fun k => k s7 H) H fun v36 H =>
qG v34 true (fun k => qLeq X 5 v36 (.int .u8 102) fun v => k v H) H fun v37 H =>
qPick v34 v37 (.bool false) fun v38 =>
k [s0, s1, s4, s5, s6, s7, s12, s17, s23, v38, s46] H : R))
noncomputable def r76_9 (C : CallF) (k : KT R) : KT R := fun fr H => opn 11 fr (fun s0 s1 s4 s5 s6 s7 s12 s17 s23 s32 s46 => 
(qRes (C 24 [s7] H) fun v25 H =>
k [s0, s1, s4, s5, s6, s7, s12, s17, v25, s32, s46] H : R))
noncomputable def r76_7 (k : KT R) : KT R := fun fr H => opn 11 fr (fun s0 s1 s4 s5 s6 s7 s12 s17 s23 s32 s46 => 
(qIx s0 s6 fun v22 =>
k [s0, s1, s4, s5, s6, v22, s12, s17, s23, s32, s46] H : R))
noncomputable def r76_5 (k : KT R) : KT R := fun fr H => opn 11 fr (fun s0 s1 s4 s5 s6 s7 s12 s17 s23 s32 s46 => 
(qAdd X 3 s1 (.int .i64 4) fun v16 =>
qLss X 3 s6 v16 fun v17 =>
k [s0, s1, s4, s5, s6, s7, s12, v17, s23, s32, s46] H : R))
noncomputable def l76_8 (C : CallF) (k1 : KT R) (kr : KT R) : KT R → KT R := fun k2 => (r76_5 (qCd (sel 7) (fun k8 => k8) (fun _ => k1) (qBl (fun k3 => (r76_7 (qBl (fun k4 => (r76_9 C (qCd (sel 8) (fun k5 => (r76_10 k5)) (fun k5 => (r76_11 (qCd (sel 9) (fun k6 => (r76_12 k6)) (fun k6 => (r76_13 (qCd (sel 10) (fun k7 => (r76_14 k7)) (fun _ => (r76_8 kr)) k6))) k5))) k4))) k3))) (r76_6 k2))))
noncomputable def r76_4 (k : KT R) : KT R := fun fr H => opn 11 fr (fun s0 s1 s4 s5 s6 s7 s12 s17 s23 s32 s46 => 
(k [s0, s1, s4, s5, s1, s7, s12, s17, s23, s32, s46] H : R))
noncomputable def r76_3 (k : KT R) : KT R := fun fr H => opn 11 fr (fun s0 s1 s4 s5 s6 s7 s12 s17 s23 s32 s46 => 
(k [s0, s1, s4, (.int .i64 0), s6, s7, s12, s17, s23, s32, s46] H : R))
noncomputable def r76_2 (k : KT R) : KT R := fun fr H => opn 11 fr (fun s0 s1 s4 s5 s6 s7 s12 s17 s23 s32 s46 => 
(k [s0, s1, (.int .i64 (-1)), s5, s6, s7, s12, s17, s23, s32, s46] H : R))
noncomputable def r76_1 (k : KT R) : KT R := fun fr H => opn 11 fr (fun s0 s1 s4 s5 s6 s7 s12 s17 s23 s32 s46 => 
(qAdd X 3 s1 (.int .i64 4) fun v9 =>
qLenS s0 fun v11 =>
qGtr X 3 v9 v11 fun v12 =>
k [s0, s1, s4, s5, s6, s7, v12, s17, s23, s32, s46] H : R))
noncomputable def r76_0 (k : KT R) : KT R := fun fr H => opn 11 fr (fun s0 s1 s4 s5 s6 s7 s12 s17 s23 s32 s46 => 
(k [s0, s1, (.int .i64 0), s5, s6, s7, s12, s17, s23, s32, s46] H : R))
noncomputable def c76 (C : CallF) (l0 : List AV) (H : AH) (k : AV → AH → R) : R := opn 2 l0 (fun x0 x1 => (qFn (fun kr => (r76_0 (r76_1 (qCd (sel 6) (fun _ => (r76_2 kr)) (fun k9 => k9) (r76_3 (r76_4 (qBl (fun k1 => (qLoop (l76_8 C k1 kr))) (r76_15 kr))))))))
(fun fr H => k (sel 2 fr) H) [x0, x1, Aes.undef, Aes.undef, Aes.undef, Aes.undef, Aes.undef, Aes.undef, Aes.undef, Aes.undef, Aes.undef] H : R))
/- refectory/refectoryref01.bytes -/
noncomputable def r77_7 (k : KT R) : KT R := fun fr H => opn 5 fr (fun s0 s2 s3 s10 s23 => 
(qO (binop X .shr 3 s0 (.int .u64 18)) fun v42 =>
qO (binop X .or 3 (.int .i64 240) v42) fun v43 =>
qConvI .u8 v43 fun v44 =>
qO (binop X .shr 3 s0 (.int .u64 12)) fun v46 =>
qO (binop X .and 3 v46 (.int .i64 63)) fun v47 =>
qO (binop X .or 3 (.int .i64 128) v47) fun v48 =>
qConvI .u8 v48 fun v49 =>
qO (binop X .shr 3 s0 (.int .u64 6)) fun v51 =>
qO (binop X .and 3 v51 (.int .i64 63)) fun v52 =>
qO (binop X .or 3 (.int .i64 128) v52) fun v53 =>
qConvI .u8 v53 fun v54 =>
qO (binop X .and 3 s0 (.int .i64 63)) fun v56 =>
qO (binop X .or 3 (.int .i64 128) v56) fun v57 =>
qConvI .u8 v57 fun v58 =>
qRows z5 4 [(0, v44), (1, v49), (2, v54), (3, v58)] fun v59 =>
qBstr v59 H fun v60 =>
k [s0, v60, s3, s10, s23] H : R))
noncomputable def r77_2 (k : KT R) : KT R := fun fr H => opn 5 fr (fun s0 s2 s3 s10 s23 => 
(qConvI .u8 s0 fun v7 =>
qRows z5 1 [(0, v7)] fun v8 =>
qBstr v8 H fun v9 =>
k [s0, v9, s3, s10, s23] H : R))
noncomputable def r77_4 (k : KT R) : KT R := fun fr H => opn 5 fr (fun s0 s2 s3 s10 s23 => 
(qO (binop X .shr 3 s0 (.int .u64 6)) fun v14 =>
qO (binop X .or 3 (.int .i64 192) v14) fun v15 =>
qConvI .u8 v15 fun v16 =>
qO (binop X .and 3 s0 (.int .i64 63)) fun v18 =>
qO (binop X .or 3 (.int .i64 128) v18) fun v19 =>
qConvI .u8 v19 fun v20 =>
qRows z5 2 [(0, v16), (1, v20)] fun v21 =>
qBstr v21 H fun v22 =>
k [s0, v22, s3, s10, s23] H : R))
noncomputable def r77_6 (k : KT R) : KT R := fun fr H => opn 5 fr (fun s0 s2 s3 s10 s23 => 
(qO (binop X .shr 3 s0 (.int .u64 12)) fun v27 =>
qO (binop X .or 3 (.int .i64 224) v27) fun v28 =>
qConvI .u8 v28 fun v29 =>
qO (binop X .shr 3 s0 (.int .u64 6)) fun v31 =>
qO (binop X .and 3 v31 (.int .i64 63)) fun v32 =>
qO (binop X .or 3 (.int .i64 128) v32) fun v33 =>
qConvI .u8 v33 fun v34 =>
qO (binop X .and 3 s0 (.int .i64 63)) fun v36 =>
qO (binop X .or 3 (.int .i64 128) v36) fun v37 =>
qConvI .u8 v37 fun v38 =>
qRows z5 3 [(0, v29), (1, v34), (2, v38)] fun v39 =>
qBstr v39 H fun v40 =>
k [s0, v40, s3, s10, s23] H : R))
noncomputable def r77_5 (k : KT R) : KT R := fun fr H => opn 5 fr (fun s0 s2 s3 s10 s23 => 
(qLss X 3 s0 (.int .i64 65536) fun v25 =>
k [s0, s2, s3, s10, v25] H : R))
noncomputable def r77_3 (k : KT R) : KT R := fun fr H => opn 5 fr (fun s0 s2 s3 s10 s23 => 
(qLss X 3 s0 (.int .i64 2048) fun v12 =>
k [s0, s2, s3, v12, s23] H : R))
noncomputable def r77_1 (k : KT R) : KT R := fun fr H => opn 5 fr (fun s0 s2 s3 s10 s23 => 
(qLss X 3 s0 (.int .i64 128) fun v5 =>
k [s0, s2, v5, s10, s23] H : R))
noncomputable def r77_0 (k : KT R) : KT R := fun fr H => opn 5 fr (fun s0 s2 s3 s10 s23 => 
(k [s0, (.str []), s3, s10, s23] H : R))
noncomputable def c77 (C : CallF) (l0 : List AV) (H : AH) (k : AV → AH → R) : R := opn 1 l0 (fun x0 => (qFn (fun kr => (r77_0 (qBl (fun k1 => (r77_1 (qCd (sel 2) (fun _ => (r77_2 kr)) (fun k2 => (r77_3 (qCd (sel 3) (fun _ => (r77_4 kr)) (fun k3 => (r77_5 (qCd (sel 4) (fun _ => (r77_6 kr)) (fun k4 => k4) k3))) k2))) k1))) (r77_7 kr))))
(fun fr H => k (sel 1 fr) H) [x0, Aes.undef, Aes.undef, Aes.undef, Aes.undef] H : R))
/- unicode/utf8.DecodeRuneInString -/
noncomputable def r78_2 (k : KT R) : KT R := fun fr H => opn 4 fr (fun s0 s2 s3 s10 => 
(qIx s0 (.int .i64 0) fun v12 =>
qConvI .i32 v12 fun v13 =>
k [s0, v13, (.int .i64 1), s10] H : R))
noncomputable def r78_3 (C : CallF) (k : KT R) : KT R := fun fr H => opn 4 fr (fun s0 s2 s3 s10 => 
(qRes (C 90 [s0] H) fun v16 H =>
qExt v16 0 fun v17 =>
qExt v16 1 fun v18 =>
k [s0, v17, v18, s10] H : R))
noncomputable def r78_1 (k : KT R) : KT R := fun fr H => opn 4 fr (fun s0 s2 s3 s10 => 
(qNeq X 9 s0 (.str []) fun v5 =>
qG v5 true (fun k => k s0 H) H fun v7 H =>
qG v5 true (fun k => qIx v7 (.int .i64 0) fun v => k v H) H fun v8 H =>
qG v5 true (fun k => qLss X 5 v8 (.int .u8 128) fun v => k v H) H fun v9 H =>
qPick v5 v9 (.bool false) fun v10 =>
k [s0, s2, s3, v10] H : R))
noncomputable def r78_0 (k : KT R) : KT R := fun fr H => opn 4 fr (fun s0 s2 s3 s10 => 
(k [s0, (.int .i32 0), (.int .i64 0), s10] H : R))
noncomputable def c78 (C : CallF) (l0 : List AV) (H : AH) (k : AV → AH → R) : R := opn 1 l0 (fun x0 => (qFn (fun kr => (r78_0 (r78_1 (qCd (sel 3) (fun _ => (r78_2 kr)) (fun k1 => (r78_3 C k1)) kr))))
(fun fr H => k (.tup [(sel 1 fr), (sel 2 fr)]) H) [x0, Aes.undef, Aes.undef, Aes.undef] H : R))
/- strings.ContainsRune -/
noncomputable def r79_1 (C : CallF) (k : KT R) : KT R := fun fr H => opn 3 fr (fun s0 s1 s4 => 
(qRes (C 68 [s0, s1] H) fun v7 H =>
qGeq X 3 v7 (.int .i64 0) fun v8 =>
k [s0, s1, v8] H : R))
noncomputable def r79_0 (k : KT R) : KT R := fun fr H => opn 3 fr (fun s0 s1 s4 => 
(k [s0, s1, (.bool false)] H : R))
noncomputable def c79 (C : CallF) (l0 : List AV) (H : AH) (k : AV → AH → R) : R := opn 2 l0 (fun x0 x1 => (qFn (fun kr => (r79_0 (r79_1 C kr)))
(fun fr H => k (sel 2 fr) H) [x0, x1, Aes.undef] H : R))
/- unicode/utf8.ValidRune -/
noncomputable def r85_5 (k : KT R) : KT R := fun fr H => opn 4 fr (fun s0 s2 s3 s10 => 
(k [s0, (.bool false), s3, s10] H : R))
noncomputable def r85_2 (k : KT R) : KT R := fun fr H => opn 4 fr (fun s0 s2 s3 s10 => 
(k [s0, (.bool true), s3, s10] H : R))
noncomputable def r85_4 (k : KT R) : KT R := fun fr H => opn 4 fr (fun s0 s2 s3 s10 => 
(k [s0, (.bool true), s3, s10] H : R))
noncomputable def r85_3 (k : KT R) : KT R := fun fr H => opn 4 fr (fun s0 s2 s3 s10 => 
(qLss X 21 (.int .i32 57343) s0 fun v12 =>
qG v12 true (fun k => k s0 H) H fun v14 H =>
qG v12 true (fun k => qLeq X 21 v14 (.int .i32 1114111) fun v => k v H) H fun v15 H =>
qPick v12 v15 (.bool false) fun v16 =>
k [s0, s2, s3, v16] H : R))
noncomputable def r85_1 (k : KT R) : KT R := fun fr H => opn 4 fr (fun s0 s2 s3 s10 => 
(qLeq X 21 (.int .i32 0) s0 fun v5 =>
qG v5 true (fun k => k s0 H) H fun v7 H =>
qG v5 true (fun k => qLss X 21 v7 (.int .i32 55296) fun v => k v H) H fun v8 H =>
qPick v5 v8 (.bool false) fun v9 =>
k [s0, s2, v9, s10] H : R))
noncomputable def r85_0 (k : KT R) : KT R := fun fr H => opn 4 fr (fun s0 s2 s3 s10 => 
(k [s0, (.bool false), s3, s10] H : R))
noncomputable def c85 (C : CallF) (l0 : List AV) (H : AH) (k : AV → AH → R) : R := opn 1 l0 (fun x0 => (qFn (fun kr => (r85_0 (qBl (fun k1 => (r85_1 (qCd (sel 2) (fun _ => (r85_2 kr)) (fun k2 => (r85_3 (qCd (sel 3) (fun _ => (r85_4 kr)) (fun k3 => k3) k2))) k1))) (r85_5 kr))))
(fun fr H => k (sel 1 fr) H) [x0, Aes.undef, Aes.undef, Aes.undef] H : R))
/- internal/bytealg.Cutover -/
noncomputable def r86_1 (k : KT R) : KT R := fun fr H => opn 2 fr (fun s0 s2 => 
(qAdd X 3 s0 (.int .i64 16) fun v4 =>
qQuo X 3 v4 (.int .i64 8) fun v5 =>
k [s0, v5] H : R))
noncomputable def r86_0 (k : KT R) : KT R := fun fr H => opn 2 fr (fun s0 s2 => 
(k [s0, (.int .i64 0)] H : R))
noncomputable def c86 (C : CallF) (l0 : List AV) (H : AH) (k : AV → AH → R) : R := opn 1 l0 (fun x0 => (qFn (fun kr => (r86_0 (r86_1 kr)))
(fun fr H => k (sel 1 fr) H) [x0, Aes.undef] H : R))
/- unicode/utf8.appendRuneNonASCII -/
noncomputable def r88_4 (k : KT R) : KT R := fun fr H => opn 7 fr (fun s0 s1 s4 s5 s11 s25 s50 => 
(qO (binop X .shr 21 s1 (.int .u64 6)) fun v16 =>
qConvI .u8 v16 fun v17 =>
qO (binop X .or 5 (.int .u8 192) v17) fun v18 =>
qConvI .u8 s1 fun v20 =>
qO (binop X .and 5 v20 (.int .u8 63)) fun v21 =>
qO (binop X .or 5 (.int .u8 128) v21) fun v22 =>
qRows z5 2 [(0, v18), (1, v22)] fun v23 =>
qApp 1 1 s0 v23 true (some 5) H fun v24 H =>
k [s0, s1, v24, s5, s11, s25, s50] H : R))
noncomputable def r88_7 (k : KT R) : KT R := fun fr H => opn 7 fr (fun s0 s1 s4 s5 s11 s25 s50 => 
(qO (binop X .shr 21 s1 (.int .u64 12)) fun v36 =>
qConvI .u8 v36 fun v37 =>
qO (binop X .or 5 (.int .u8 224) v37) fun v38 =>
qO (binop X .shr 21 s1 (.int .u64 6)) fun v40 =>
qConvI .u8 v40 fun v41 =>
qO (binop X .and 5 v41 (.int .u8 63)) fun v42 =>
qO (binop X .or 5 (.int .u8 128) v42) fun v43 =>
qConvI .u8 s1 fun v45 =>
qO (binop X .and 5 v45 (.int .u8 63)) fun v46 =>
qO (binop X .or 5 (.int .u8 128) v46) fun v47 =>
qRows z5 3 [(0, v38), (1, v43), (2, v47)] fun v48 =>
qApp 1 1 s0 v48 true (some 5) H fun v49 H =>
k [s0, s1, v49, s5, s11, s25, s50] H : R))
noncomputable def r88_9 (k : KT R) : KT R := fun fr H => opn 7 fr (fun s0 s1 s4 s5 s11 s25 s50 => 
(qO (binop X .shr 21 s1 (.int .u64 18)) fun v59 =>
qConvI .u8 v59 fun v60 =>
qO (binop X .or 5 (.int .u8 240) v60) fun v61 =>
qO (binop X .shr 21 s1 (.int .u64 12)) fun v63 =>
qConvI .u8 v63 fun v64 =>
qO (binop X .and 5 v64 (.int .u8 63)) fun v65 =>
qO (binop X .or 5 (.int .u8 128) v65) fun v66 =>
qO (binop X .shr 21 s1 (.int .u64 6)) fun v68 =>
qConvI .u8 v68 fun v69 =>
qO (binop X .and 5 v69 (.int .u8 63)) fun v70 =>
qO (binop X .or 5 (.int .u8 128) v70) fun v71 =>
qConvI .u8 s1 fun v73 =>
qO (binop X .and 5 v73 (.int .u8 63)) fun v74 =>
qO (binop X .or 5 (.int .u8 128) v74) fun v75 =>
qRows z5 4 [(0, v61), (1, v66), (2, v71), (3, v75)] fun v76 =>
qApp 1 1 s0 v76 true (some 5) H fun v77 H =>
k [s0, s1, v77, s5, s11, s25, s50] H : R))
noncomputable def r88_2 (k : KT R) : KT R := fun fr H => opn 7 fr (fun s0 s1 s4 s5 s11 s25 s50 => 
(qRows z5 3 [(0, (.int .u8 239)), (1, (.int .u8 191)), (2, (.int .u8 189))] fun v9 =>
qApp 1 1 s0 v9 true (some 5) H fun v10 H =>
k [s0, s1, v10, s5, s11, s25, s50] H : R))
noncomputable def r88_8 (k : KT R) : KT R := fun fr H => opn 7 fr (fun s0 s1 s4 s5 s11 s25 s50 => 
(qGtr X 110 s5 (.int .u32 65535) fun v52 =>
qG v52 true (fun k => k s5 H) H fun v54 H =>
qG v52 true (fun k => qLeq X 110 v54 (.int .u32 1114111) fun v => k v H) H fun v55 H =>
qPick v52 v55 (.bool false) fun v56 =>
k [s0, s1, s4, s5, s11, s25, v56] H : R))
noncomputable def r88_6 (k : KT R) : KT R := fun fr H => opn 7 fr (fun s0 s1 s4 s5 s11 s25 s50 => 
(qLss X 110 (.int .u32 57343) s5 fun v29 =>
qG v29 true (fun k => k s5 H) H fun v31 H =>
qG v29 true (fun k => qLeq X 110 v31 (.int .u32 65535) fun v => k v H) H fun v32 H =>
qPick v29 v32 (.bool false) fun v33 =>
k [s0, s1, s4, s5, s11, v33, s50] H : R))
noncomputable def r88_5 (k : KT R) : KT R := fun fr H => opn 7 fr (fun s0 s1 s4 s5 s11 s25 s50 => 
(qLss X 110 s5 (.int .u32 55296) fun v27 =>
k [s0, s1, s4, s5, s11, v27, s50] H : R))
noncomputable def r88_3 (k : KT R) : KT R := fun fr H => opn 7 fr (fun s0 s1 s4 s5 s11 s25 s50 => 
(qLeq X 110 s5 (.int .u32 2047) fun v13 =>
k [s0, s1, s4, s5, v13, s25, s50] H : R))
noncomputable def r88_1 (k : KT R) : KT R := fun fr H => opn 7 fr (fun s0 s1 s4 s5 s11 s25 s50 => 
(qConvI .u32 s1 fun v7 =>
k [s0, s1, s4, v7, s11, s25, s50] H : R))
noncomputable def r88_0 (k : KT R) : KT R := fun fr H => opn 7 fr (fun s0 s1 s4 s5 s11 s25 s50 => 
(k [s0, s1, (.sl [] .nil), s5, s11, s25, s50] H : R))
noncomputable def c88 (C : CallF) (l0 : List AV) (H : AH) (k : AV → AH → R) : R := opn 2 l0 (fun x0 x1 => (qFn (fun kr => (r88_0 (r88_1 (qBl (fun k1 => (r88_3 (qCd (sel 4) (fun _ => (r88_4 kr)) (fun k2 => (r88_5 (qCd (sel 5) (fun k5 => k5) (fun k5 => (r88_6 k5)) (qCd (sel 5) (fun _ => (r88_7 kr)) (fun k3 => (r88_8 (qCd (sel 6) (fun _ => (r88_9 kr)) (fun _ => (r88_2 kr)) k3))) k2)))) k1))) kr))))
(fun fr H => k (sel 2 fr) H) [x0, x1, Aes.undef, Aes.undef, Aes.undef, Aes.undef, Aes.undef] H : R))
end
theorem e4 {R : Type} [Mon R] : hFn (R := R) X 4 Tryz.f4 2 [0, 1, 4, 5, 7, 8, 9, 10, 11, 12, 13, 14, 16, 17, 20, 29, 39, 48, 97, 116, 132, 136, 174] = c4 := by kernel_rfl
theorem xf4 : X.fn 4 = some Tryz.f4 := by kernel_rfl
theorem e5 {R : Type} [Mon R] : hFn (R := R) X 5 Tryz.f5 0 [0, 1, 2, 3] = c5 := by kernel_rfl
theorem xf5 : X.fn 5 = some Tryz.f5 := by kernel_rfl
theorem e6 {R : Type} [Mon R] : hFn (R := R) X 6 Tryz.f6 1 [0, 2, 3, 4, 5, 6, 7, 8, 9, 12, 16, 20, 28, 43] = c6 := by kernel_rfl
theorem xf6 : X.fn 6 = some Tryz.f6 := by kernel_rfl
theorem e7 {R : Type} [Mon R] : hFn (R := R) X 7 Tryz.f7 1 [0, 2, 3, 4, 5, 6, 7, 8, 9, 12, 16, 19, 28, 35, 43, 60] = c7 := by kernel_rfl
theorem xf7 : X.fn 7 = some Tryz.f7 := by kernel_rfl
theorem e9 {R : Type} [Mon R] : hFn (R := R) X 9 Tryz.f9 2 [0, 1, 4, 5, 10] = c9 := by kernel_rfl
theorem xf9 : X.fn 9 = some Tryz.f9 := by kernel_rfl
theorem e11 {R : Type} [Mon R] : hFn (R := R) X 11 Tryz.f11 2 [0, 1, 4, 5, 16] = c11 := by kernel_rfl
theorem xf11 : X.fn 11 = some Tryz.f11 := by kernel_rfl
theorem e12 {R : Type} [Mon R] : hFn (R := R) X 12 Tryz.f12 1 [0, 2] = c12 := by kernel_rfl
theorem xf12 : X.fn 12 = some Tryz.f12 := by kernel_rfl
theorem e13 {R : Type} [Mon R] : hFn (R := R) X 13 Tryz.f13 1 [0, 2, 3, 4, 5, 6, 7, 8, 9, 10, 11, 12, 15, 31, 35, 47, 53, 60, 71, 82, 86] = c13 := by kernel_rfl
theorem xf13 : X.fn 13 = some Tryz.f13 := by kernel_rfl
theorem e14 {R : Type} [Mon R] : hFn (R := R) X 14 Tryz.f14 2 [0, 1, 4, 5, 6, 7, 8, 9, 10, 11, 12, 13, 14, 19, 37, 51, 67, 78, 95, 110, 129, 135] = c14 := by kernel_rfl
theorem xf14 : X.fn 14 = some Tryz.f14 := by kernel_rfl
theorem e16 {R : Type} [Mon R] : hFn (R := R) X 16 Tryz.f16 1 [0, 2] = c16 := by kernel_rfl
theorem xf16 : X.fn 16 = some Tryz.f16 := by kernel_rfl
theorem e17 {R : Type} [Mon R] : hFn (R := R) X 17 Tryz.f17 1 [0, 2] = c17 := by kernel_rfl
theorem xf17 : X.fn 17 = some Tryz.f17 := by kernel_rfl
theorem e18 {R : Type} [Mon R] : hFn (R := R) X 18 Tryz.f18 1 [0, 2] = c18 := by kernel_rfl
theorem xf18 : X.fn 18 = some Tryz.f18 := by kernel_rfl
theorem e19 {R : Type} [Mon R] : hFn (R := R) X 19 Tryz.f19 1 [0, 2, 3, 4, 5, 6, 7, 8, 11, 26, 37, 41, 52, 62, 68] = c19 := by kernel_rfl
theorem xf19 : X.fn 19 = some Tryz.f19 := by kernel_rfl
theorem e20 {R : Type} [Mon R] : hFn (R := R) X 20 Tryz.f20 2 [0, 1, 4] = c20 := by kernel_rfl
theorem xf20 : X.fn 20 = some Tryz.f20 := by kernel_rfl
theorem e21 {R : Type} [Mon R] : hFn (R := R) X 21 Tryz.f21 1 [0, 2, 3, 4, 5, 6, 10, 20, 26, 31] = c21 := by kernel_rfl
theorem xf21 : X.fn 21 = some Tryz.f21 := by kernel_rfl
theorem e22 {R : Type} [Mon R] : hFn (R := R) X 22 Tryz.f22 1 [0, 2, 3, 4, 5, 6, 16, 20, 34, 44] = c22 := by kernel_rfl
theorem xf22 : X.fn 22 = some Tryz.f22 := by kernel_rfl
theorem e23 {R : Type} [Mon R] : hFn (R := R) X 23 Tryz.f23 1 [0, 2] = c23 := by kernel_rfl
theorem xf23 : X.fn 23 = some Tryz.f23 := by kernel_rfl
theorem e24 {R : Type} [Mon R] : hFn (R := R) X 24 Tryz.f24 1 [0, 2] = c24 := by kernel_rfl
theorem xf24 : X.fn 24 = some Tryz.f24 := by kernel_rfl
theorem e25 {R : Type} [Mon R] : hFn (R := R) X 25 Tryz.f25 1 [0, 2] = c25 := by kernel_rfl
theorem xf25 : X.fn 25 = some Tryz.f25 := by kernel_rfl
theorem e26 {R : Type} [Mon R] : hFn (R := R) X 26 Tryz.f26 1 [0, 2, 3, 4, 5, 6, 9, 19, 36, 49, 55, 75, 93, 100, 107] = c26 := by kernel_rfl
theorem xf26 : X.fn 26 = some Tryz.f26 := by kernel_rfl
theorem e27 {R : Type} [Mon R] : hFn (R := R) X 27 Tryz.f27 2 [0, 1, 4, 5, 6, 7, 8, 9, 22, 53, 57, 65] = c27 := by kernel_rfl
theorem xf27 : X.fn 27 = some Tryz.f27 := by kernel_rfl
theorem e29 {R : Type} [Mon R] : hFn (R := R) X 29 Tryz.f29 2 [0, 1, 4] = c29 := by kernel_rfl
theorem xf29 : X.fn 29 = some Tryz.f29 := by kernel_rfl
theorem e30 {R : Type} [Mon R] : hFn (R := R) X 30 Tryz.f30 1 [0, 2] = c30 := by kernel_rfl
theorem xf30 : X.fn 30 = some Tryz.f30 := by kernel_rfl
theorem e31 {R : Type} [Mon R] : hFn (R := R) X 31 Tryz.f31 2 [0, 1, 4, 5] = c31 := by kernel_rfl
theorem xf31 : X.fn 31 = some Tryz.f31 := by kernel_rfl
theorem e32 {R : Type} [Mon R] : hFn (R := R) X 32 Tryz.f32 2 [0, 1, 4] = c32 := by kernel_rfl
theorem xf32 : X.fn 32 = some Tryz.f32 := by kernel_rfl
theorem e33 {R : Type} [Mon R] : hFn (R := R) X 33 Tryz.f33 2 [0, 1, 4, 5] = c33 := by kernel_rfl
theorem xf33 : X.fn 33 = some Tryz.f33 := by kernel_rfl
theorem e34 {R : Type} [Mon R] : hFn (R := R) X 34 Tryz.f34 1 [0, 2, 4, 6, 7, 8, 23] = c34 := by kernel_rfl
theorem xf34 : X.fn 34 = some Tryz.f34 := by kernel_rfl
theorem e36 {R : Type} [Mon R] : hFn (R := R) X 36 Tryz.f36 1 [0, 2, 3, 4, 6, 7, 8, 9, 15, 16, 17, 18, 35, 40, 41, 42, 73, 88] = c36 := by kernel_rfl
theorem xf36 : X.fn 36 = some Tryz.f36 := by kernel_rfl
theorem e37 {R : Type} [Mon R] : hFn (R := R) X 37 Tryz.f37 2 [0, 1, 4] = c37 := by kernel_rfl
theorem xf37 : X.fn 37 = some Tryz.f37 := by kernel_rfl
theorem e38 {R : Type} [Mon R] : hFn (R := R) X 38 Tryz.f38 2 [0, 1, 4] = c38 := by kernel_rfl
theorem xf38 : X.fn 38 = some Tryz.f38 := by kernel_rfl
theorem e39 {R : Type} [Mon R] : hFn (R := R) X 39 Tryz.f39 1 [0, 2, 3, 4, 5, 6, 7, 8, 9, 10, 31, 38, 39, 40, 49, 55, 59, 66, 71, 77, 92] = c39 := by kernel_rfl
theorem xf39 : X.fn 39 = some Tryz.f39 := by kernel_rfl
theorem e40 {R : Type} [Mon R] : hFn (R := R) X 40 Tryz.f40 2 [0, 1, 4, 5, 19] = c40 := by kernel_rfl
theorem xf40 : X.fn 40 = some Tryz.f40 := by kernel_rfl
theorem e41 {R : Type} [Mon R] : hFn (R := R) X 41 Tryz.f41 2 [0, 1, 4, 5, 6, 7, 11, 21, 41, 59] = c41 := by kernel_rfl
theorem xf41 : X.fn 41 = some Tryz.f41 := by kernel_rfl
theorem e42 {R : Type} [Mon R] : hFn (R := R) X 42 Tryz.f42 1 [0, 2, 3, 4, 5, 6, 7, 8, 29, 38, 48, 61, 69] = c42 := by kernel_rfl
theorem xf42 : X.fn 42 = some Tryz.f42 := by kernel_rfl
theorem e43 {R : Type} [Mon R] : hFn (R := R) X 43 Tryz.f43 2 [0, 1, 4, 7] = c43 := by kernel_rfl
theorem xf43 : X.fn 43 = some Tryz.f43 := by kernel_rfl
theorem e44 {R : Type} [Mon R] : hFn (R := R) X 44 Tryz.f44 2 [0, 1, 4, 5, 6, 12, 21, 31] = c44 := by kernel_rfl
theorem xf44 : X.fn 44 = some Tryz.f44 := by kernel_rfl
theorem e45 {R : Type} [Mon R] : hFn (R := R) X 45 Tryz.f45 2 [0, 1, 4, 5, 9] = c45 := by kernel_rfl
theorem xf45 : X.fn 45 = some Tryz.f45 := by kernel_rfl
theorem e47 {R : Type} [Mon R] : hFn (R := R) X 47 Tryz.f47 1 [0, 2] = c47 := by kernel_rfl
theorem xf47 : X.fn 47 = some Tryz.f47 := by kernel_rfl
theorem e50 {R : Type} [Mon R] : hFn (R := R) X 50 Tryz.f50 1 [0, 2] = c50 := by kernel_rfl
theorem xf50 : X.fn 50 = some Tryz.f50 := by kernel_rfl
theorem e51 {R : Type} [Mon R] : hFn (R := R) X 51 Tryz.f51 1 [0, 2] = c51 := by kernel_rfl
theorem xf51 : X.fn 51 = some Tryz.f51 := by kernel_rfl
theorem e53 {R : Type} [Mon R] : hFn (R := R) X 53 Tryz.f53 2 [0, 1, 4, 5, 6, 7, 8, 9, 10, 12, 15, 20, 26, 32, 36, 42, 45, 46, 47, 53] = c53 := by kernel_rfl
theorem xf53 : X.fn 53 = some Tryz.f53 := by kernel_rfl
theorem e54 {R : Type} [Mon R] : hFn (R := R) X 54 Tryz.f54 2 [0, 1, 4, 5, 6] = c54 := by kernel_rfl
theorem xf54 : X.fn 54 = some Tryz.f54 := by kernel_rfl
theorem e55 {R : Type} [Mon R] : hFn (R := R) X 55 Tryz.f55 1 [0, 2, 3, 4, 5, 13, 22, 31] = c55 := by kernel_rfl
theorem xf55 : X.fn 55 = some Tryz.f55 := by kernel_rfl
theorem e56 {R : Type} [Mon R] : hFn (R := R) X 56 Tryz.f56 1 [0, 2, 3, 4, 5, 6, 7, 8, 9, 15, 38, 47, 78, 100, 109, 113] = c56 := by kernel_rfl
theorem xf56 : X.fn 56 = some Tryz.f56 := by kernel_rfl
theorem e57 {R : Type} [Mon R] : hFn (R := R) X 57 Tryz.f57 1 [0, 2, 3, 5, 9, 17] = c57 := by kernel_rfl
theorem xf57 : X.fn 57 = some Tryz.f57 := by kernel_rfl
theorem e58 {R : Type} [Mon R] : hFn (R := R) X 58 Tryz.f58 2 [0, 1, 4, 5, 6, 7, 11, 14, 15, 24, 26, 28, 30, 32, 34, 66, 76, 94] = c58 := by kernel_rfl
theorem xf58 : X.fn 58 = some Tryz.f58 := by kernel_rfl
theorem e59 {R : Type} [Mon R] : hFn (R := R) X 59 Tryz.f59 2 [0, 1, 4, 13] = c59 := by kernel_rfl
theorem xf59 : X.fn 59 = some Tryz.f59 := by kernel_rfl
theorem e60 {R : Type} [Mon R] : hFn (R := R) X 60 Tryz.f60 1 [0, 2, 3, 4, 5, 9, 16] = c60 := by kernel_rfl
theorem xf60 : X.fn 60 = some Tryz.f60 := by kernel_rfl
theorem e61 {R : Type} [Mon R] : hFn (R := R) X 61 Tryz.f61 2 [0, 1, 4, 7, 12] = c61 := by kernel_rfl
theorem xf61 : X.fn 61 = some Tryz.f61 := by kernel_rfl
theorem e62 {R : Type} [Mon R] : hFn (R := R) X 62 Tryz.f62 2 [0, 1, 4, 5, 6, 9, 18] = c62 := by kernel_rfl
theorem xf62 : X.fn 62 = some Tryz.f62 := by kernel_rfl
theorem e68 {R : Type} [Mon R] : hFn (R := R) X 68 Tryz.f68 2 [0, 1, 4, 5, 6, 7, 8, 9, 10, 11, 12, 13, 14, 15, 16, 26, 33, 43, 51, 64, 98, 108, 124, 139, 143, 156, 160, 171, 175, 176, 177, 181, 183] = c68 := by kernel_rfl
theorem xf68 : X.fn 68 = some Tryz.f68 := by kernel_rfl
theorem e69 {R : Type} [Mon R] : hFn (R := R) X 69 Tryz.f69 1 [0, 2] = c69 := by kernel_rfl
theorem xf69 : X.fn 69 = some Tryz.f69 := by kernel_rfl
theorem e70 {R : Type} [Mon R] : hFn (R := R) X 70 Tryz.f70 2 [0, 1, 4] = c70 := by kernel_rfl
theorem xf70 : X.fn 70 = some Tryz.f70 := by kernel_rfl
theorem e71 {R : Type} [Mon R] : hFn (R := R) X 71 Tryz.f71 2 [0, 1, 4, 7] = c71 := by kernel_rfl
theorem xf71 : X.fn 71 = some Tryz.f71 := by kernel_rfl
theorem e72 {R : Type} [Mon R] : hFn (R := R) X 72 Tryz.f72 1 [0, 2, 3, 5, 6, 9, 13, 14, 15, 20] = c72 := by kernel_rfl
theorem xf72 : X.fn 72 = some Tryz.f72 := by kernel_rfl
theorem e73 {R : Type} [Mon R] : hFn (R := R) X 73 Tryz.f73 1 [0, 2, 3, 4, 5, 9, 21, 46] = c73 := by kernel_rfl
theorem xf73 : X.fn 73 = some Tryz.f73 := by kernel_rfl
theorem e74 {R : Type} [Mon R] : hFn (R := R) X 74 Tryz.f74 1 [0, 2, 3, 19] = c74 := by kernel_rfl
theorem xf74 : X.fn 74 = some Tryz.f74 := by kernel_rfl
theorem e75 {R : Type} [Mon R] : hFn (R := R) X 75 Tryz.f75 2 [0, 1, 4, 5, 6, 7, 8, 9, 14, 18, 27, 36, 50, 53, 62, 98] = c75 := by kernel_rfl
theorem xf75 : X.fn 75 = some Tryz.f75 := by kernel_rfl
theorem e76 {R : Type} [Mon R] : hFn (R := R) X 76 Tryz.f76 2 [0, 1, 4, 5, 6, 7, 12, 17, 23, 32, 46] = c76 := by kernel_rfl
theorem xf76 : X.fn 76 = some Tryz.f76 := by kernel_rfl
theorem e77 {R : Type} [Mon R] : hFn (R := R) X 77 Tryz.f77 1 [0, 2, 3, 10, 23] = c77 := by kernel_rfl
theorem xf77 : X.fn 77 = some Tryz.f77 := by kernel_rfl
theorem e78 {R : Type} [Mon R] : hFn (R := R) X 78 Tryz.f78 1 [0, 2, 3, 10] = c78 := by kernel_rfl
theorem xf78 : X.fn 78 = some Tryz.f78 := by kernel_rfl
theorem e79 {R : Type} [Mon R] : hFn (R := R) X 79 Tryz.f79 2 [0, 1, 4] = c79 := by kernel_rfl
theorem xf79 : X.fn 79 = some Tryz.f79 := by kernel_rfl
theorem e85 {R : Type} [Mon R] : hFn (R := R) X 85 Tryz.f85 1 [0, 2, 3, 10] = c85 := by kernel_rfl
theorem xf85 : X.fn 85 = some Tryz.f85 := by kernel_rfl
theorem e86 {R : Type} [Mon R] : hFn (R := R) X 86 Tryz.f86 1 [0, 2] = c86 := by kernel_rfl
theorem xf86 : X.fn 86 = some Tryz.f86 := by kernel_rfl
theorem e88 {R : Type} [Mon R] : hFn (R := R) X 88 Tryz.f88 2 [0, 1, 4, 5, 11, 25, 50] = c88 := by kernel_rfl
theorem xf88 : X.fn 88 = some Tryz.f88 := by kernel_rfl
end T
