import Derived.Test.YtocngckbmjfddaaRbH
set_option linter.all false
set_option linter.unusedVariables false
set_option linter.unusedSimpArgs false
set_option maxRecDepth 100000
namespace T
open Go Go.Aes Go.Proofs
noncomputable def d11_n : AV := .agg [dO, .sl [mk F0 [fa, inl s1], mk F1 [fa, inl s2], mk F2 [fa, inl s3], mk F3 [fa, inl s4], mk F4 [fa, inl s5], mk F5 [fa, inl s6], mk F6 [fa, inl s7], mk F7 [fa, inl s8], mk F8 [fa, inl s9], mk F9 [fa, inl s10], mk F10 [fa, inl s11], mk F11 [fa]] .dead]
theorem p11_n : PEnt Try.prog 22 [d11_n, dS] (ns11) := PEnt.comp (n := 100) prOk cTabs tbF_ok (by kernel_rfl) (by kernel_rfl) (by kernel_rfl)
noncomputable def t11_n : List Ent := ⟨22, [d11_n, dS], (ns11)⟩ :: tbF
theorem q11_n : PEnt Try.prog 20 [schV, d11_n] (.int .i64 0) := PEnt.comp (l := t11_n) (n := 100) prOk cTabs (tb_more tbF_ok p11_n) (by kernel_rfl) (by kernel_rfl) (by kernel_rfl)
noncomputable def u11_n : List Ent := ⟨20, [schV, d11_n], (.int .i64 0)⟩ :: t11_n
theorem ch11_n : ∀ a b, a % 12 = ((11 : Nat) : Int) → ChOk a b false := ch_fin0 u11_n (tb_more (tb_more tbF_ok p11_n) q11_n) (by kernel_rfl) (by kernel_rfl) (fun _ => by kernel_rfl) 11 (fun a b => by kernel_rfl)
noncomputable def d11_3 : AV := .agg [dO, .sl [mk F0 [fa, inl s1], mk F1 [fa, inl s2], mk F2 [fa, inl s3], mk F3 [fa, inl s4], mk F4 [fa, inl s5], mk F5 [fa, inl s6], mk F6 [fa, inl s7], mk F7 [fa, inl s8], mk F8 [fa, inl s9], mk F9 [fa, inl s10], mk F10 [fa, inl s11], mk F11 [fa, slf s3]] .dead]
theorem p11_3 : PEnt Try.prog 22 [d11_3, dS] (ns11) := PEnt.comp (n := 100) prOk cTabs tbF_ok (by kernel_rfl) (by kernel_rfl) (by kernel_rfl)
noncomputable def t11_3 : List Ent := ⟨22, [d11_3, dS], (ns11)⟩ :: tbF
theorem q11_3 : PEnt Try.prog 20 [schV, d11_3] (.int .i64 12) := PEnt.comp (l := t11_3) (n := 100) prOk cTabs (tb_more tbF_ok p11_3) (by kernel_rfl) (by kernel_rfl) (by kernel_rfl)
noncomputable def u11_3 : List Ent := ⟨20, [schV, d11_3], (.int .i64 12)⟩ :: t11_3
theorem ch11_3 : ∀ a b, a % 12 = ((11 : Nat) : Int) → b % (1 + ((11 : Nat) : Int)) = 3 → ChOk a b true := ch_fin u11_3 (tb_more (tb_more tbF_ok p11_3) q11_3) (by kernel_rfl) (by kernel_rfl) (fun _ => by kernel_rfl) 11 3 (by decide) (fun a b => by kernel_rfl)
noncomputable def d11_7 : AV := .agg [dO, .sl [mk F0 [fa, inl s1], mk F1 [fa, inl s2], mk F2 [fa, inl s3], mk F3 [fa, inl s4], mk F4 [fa, inl s5], mk F5 [fa, inl s6], mk F6 [fa, inl s7], mk F7 [fa, inl s8], mk F8 [fa, inl s9], mk F9 [fa, inl s10], mk F10 [fa, inl s11], mk F11 [fa, slf s7]] .dead]
theorem p11_7 : PEnt Try.prog 22 [d11_7, dS] (ns11) := PEnt.comp (n := 100) prOk cTabs tbF_ok (by kernel_rfl) (by kernel_rfl) (by kernel_rfl)
noncomputable def t11_7 : List Ent := ⟨22, [d11_7, dS], (ns11)⟩ :: tbF
theorem q11_7 : PEnt Try.prog 20 [schV, d11_7] (.int .i64 12) := PEnt.comp (l := t11_7) (n := 100) prOk cTabs (tb_more tbF_ok p11_7) (by kernel_rfl) (by kernel_rfl) (by kernel_rfl)
noncomputable def u11_7 : List Ent := ⟨20, [schV, d11_7], (.int .i64 12)⟩ :: t11_7
theorem ch11_7 : ∀ a b, a % 12 = ((11 : Nat) : Int) → b % (1 + ((11 : Nat) : Int)) = 7 → ChOk a b true := ch_fin u11_7 (tb_more (tb_more tbF_ok p11_7) q11_7) (by kernel_rfl) (by kernel_rfl) (fun _ => by kernel_rfl) 11 7 (by decide) (fun a b => by kernel_rfl)
noncomputable def d11_11 : AV := .agg [dO, .sl [mk F0 [fa, inl s1], mk F1 [fa, inl s2], mk F2 [fa, inl s3], mk F3 [fa, inl s4], mk F4 [fa, inl s5], mk F5 [fa, inl s6], mk F6 [fa, inl s7], mk F7 [fa, inl s8], mk F8 [fa, inl s9], mk F9 [fa, inl s10], mk F10 [fa, inl s11], mk F11 [fa, slf s11]] .dead]
theorem p11_11 : PEnt Try.prog 22 [d11_11, dS] (ns11) := PEnt.comp (n := 100) prOk cTabs tbF_ok (by kernel_rfl) (by kernel_rfl) (by kernel_rfl)
noncomputable def t11_11 : List Ent := ⟨22, [d11_11, dS], (ns11)⟩ :: tbF
theorem q11_11 : PEnt Try.prog 20 [schV, d11_11] (.int .i64 12) := PEnt.comp (l := t11_11) (n := 100) prOk cTabs (tb_more tbF_ok p11_11) (by kernel_rfl) (by kernel_rfl) (by kernel_rfl)
noncomputable def u11_11 : List Ent := ⟨20, [schV, d11_11], (.int .i64 12)⟩ :: t11_11
theorem ch11_11 : ∀ a b, a % 12 = ((11 : Nat) : Int) → b % (1 + ((11 : Nat) : Int)) = 11 → ChOk a b true := ch_fin u11_11 (tb_more (tb_more tbF_ok p11_11) q11_11) (by kernel_rfl) (by kernel_rfl) (fun _ => by kernel_rfl) 11 11 (by decide) (fun a b => by kernel_rfl)
noncomputable def d10_5 : AV := .agg [dO, .sl [mk F0 [fa, inl s1], mk F1 [fa, inl s2], mk F2 [fa, inl s3], mk F3 [fa, inl s4], mk F4 [fa, inl s5], mk F5 [fa, inl s6], mk F6 [fa, inl s7], mk F7 [fa, inl s8], mk F8 [fa, inl s9], mk F9 [fa, inl s10], mk F10 [fa, slf s5]] .dead]
theorem p10_5 : PEnt Try.prog 22 [d10_5, dS] (ns10) := PEnt.comp (n := 100) prOk cTabs tbF_ok (by kernel_rfl) (by kernel_rfl) (by kernel_rfl)
noncomputable def t10_5 : List Ent := ⟨22, [d10_5, dS], (ns10)⟩ :: tbF
theorem q10_5 : PEnt Try.prog 20 [schV, d10_5] (.int .i64 12) := PEnt.comp (l := t10_5) (n := 100) prOk cTabs (tb_more tbF_ok p10_5) (by kernel_rfl) (by kernel_rfl) (by kernel_rfl)
noncomputable def u10_5 : List Ent := ⟨20, [schV, d10_5], (.int .i64 12)⟩ :: t10_5
theorem ch10_5 : ∀ a b, a % 12 = ((10 : Nat) : Int) → b % (1 + ((10 : Nat) : Int)) = 5 → ChOk a b true := ch_fin u10_5 (tb_more (tb_more tbF_ok p10_5) q10_5) (by kernel_rfl) (by kernel_rfl) (fun _ => by kernel_rfl) 10 5 (by decide) (fun a b => by kernel_rfl)
noncomputable def d10_9 : AV := .agg [dO, .sl [mk F0 [fa, inl s1], mk F1 [fa, inl s2], mk F2 [fa, inl s3], mk F3 [fa, inl s4], mk F4 [fa, inl s5], mk F5 [fa, inl s6], mk F6 [fa, inl s7], mk F7 [fa, inl s8], mk F8 [fa, inl s9], mk F9 [fa, inl s10], mk F10 [fa, slf s9]] .dead]
theorem p10_9 : PEnt Try.prog 22 [d10_9, dS] (ns10) := PEnt.comp (n := 100) prOk cTabs tbF_ok (by kernel_rfl) (by kernel_rfl) (by kernel_rfl)
noncomputable def t10_9 : List Ent := ⟨22, [d10_9, dS], (ns10)⟩ :: tbF
theorem q10_9 : PEnt Try.prog 20 [schV, d10_9] (.int .i64 12) := PEnt.comp (l := t10_9) (n := 100) prOk cTabs (tb_more tbF_ok p10_9) (by kernel_rfl) (by kernel_rfl) (by kernel_rfl)
noncomputable def u10_9 : List Ent := ⟨20, [schV, d10_9], (.int .i64 12)⟩ :: t10_9
theorem ch10_9 : ∀ a b, a % 12 = ((10 : Nat) : Int) → b % (1 + ((10 : Nat) : Int)) = 9 → ChOk a b true := ch_fin u10_9 (tb_more (tb_more tbF_ok p10_9) q10_9) (by kernel_rfl) (by kernel_rfl) (fun _ => by kernel_rfl) 10 9 (by decide) (fun a b => by kernel_rfl)
noncomputable def d9_1 : AV := .agg [dO, .sl [mk F0 [fa, inl s1], mk F1 [fa, inl s2], mk F2 [fa, inl s3], mk F3 [fa, inl s4], mk F4 [fa, inl s5], mk F5 [fa, inl s6], mk F6 [fa, inl s7], mk F7 [fa, inl s8], mk F8 [fa, inl s9], mk F9 [fa, slf s1]] .dead]
theorem p9_1 : PEnt Try.prog 22 [d9_1, dS] (ns9) := PEnt.comp (n := 100) prOk cTabs tbF_ok (by kernel_rfl) (by kernel_rfl) (by kernel_rfl)
noncomputable def t9_1 : List Ent := ⟨22, [d9_1, dS], (ns9)⟩ :: tbF
theorem q9_1 : PEnt Try.prog 20 [schV, d9_1] (.int .i64 12) := PEnt.comp (l := t9_1) (n := 100) prOk cTabs (tb_more tbF_ok p9_1) (by kernel_rfl) (by kernel_rfl) (by kernel_rfl)
noncomputable def u9_1 : List Ent := ⟨20, [schV, d9_1], (.int .i64 12)⟩ :: t9_1
theorem ch9_1 : ∀ a b, a % 12 = ((9 : Nat) : Int) → b % (1 + ((9 : Nat) : Int)) = 1 → ChOk a b true := ch_fin u9_1 (tb_more (tb_more tbF_ok p9_1) q9_1) (by kernel_rfl) (by kernel_rfl) (fun _ => by kernel_rfl) 9 1 (by decide) (fun a b => by kernel_rfl)
noncomputable def d9_5 : AV := .agg [dO, .sl [mk F0 [fa, inl s1], mk F1 [fa, inl s2], mk F2 [fa, inl s3], mk F3 [fa, inl s4], mk F4 [fa, inl s5], mk F5 [fa, inl s6], mk F6 [fa, inl s7], mk F7 [fa, inl s8], mk F8 [fa, inl s9], mk F9 [fa, slf s5]] .dead]
theorem p9_5 : PEnt Try.prog 22 [d9_5, dS] (ns9) := PEnt.comp (n := 100) prOk cTabs tbF_ok (by kernel_rfl) (by kernel_rfl) (by kernel_rfl)
noncomputable def t9_5 : List Ent := ⟨22, [d9_5, dS], (ns9)⟩ :: tbF
theorem q9_5 : PEnt Try.prog 20 [schV, d9_5] (.int .i64 12) := PEnt.comp (l := t9_5) (n := 100) prOk cTabs (tb_more tbF_ok p9_5) (by kernel_rfl) (by kernel_rfl) (by kernel_rfl)
noncomputable def u9_5 : List Ent := ⟨20, [schV, d9_5], (.int .i64 12)⟩ :: t9_5
theorem ch9_5 : ∀ a b, a % 12 = ((9 : Nat) : Int) → b % (1 + ((9 : Nat) : Int)) = 5 → ChOk a b true := ch_fin u9_5 (tb_more (tb_more tbF_ok p9_5) q9_5) (by kernel_rfl) (by kernel_rfl) (fun _ => by kernel_rfl) 9 5 (by decide) (fun a b => by kernel_rfl)
noncomputable def d9_9 : AV := .agg [dO, .sl [mk F0 [fa, inl s1], mk F1 [fa, inl s2], mk F2 [fa, inl s3], mk F3 [fa, inl s4], mk F4 [fa, inl s5], mk F5 [fa, inl s6], mk F6 [fa, inl s7], mk F7 [fa, inl s8], mk F8 [fa, inl s9], mk F9 [fa, slf s9]] .dead]
theorem p9_9 : PEnt Try.prog 22 [d9_9, dS] (ns9) := PEnt.comp (n := 100) prOk cTabs tbF_ok (by kernel_rfl) (by kernel_rfl) (by kernel_rfl)
noncomputable def t9_9 : List Ent := ⟨22, [d9_9, dS], (ns9)⟩ :: tbF
theorem q9_9 : PEnt Try.prog 20 [schV, d9_9] (.int .i64 12) := PEnt.comp (l := t9_9) (n := 100) prOk cTabs (tb_more tbF_ok p9_9) (by kernel_rfl) (by kernel_rfl) (by kernel_rfl)
noncomputable def u9_9 : List Ent := ⟨20, [schV, d9_9], (.int .i64 12)⟩ :: t9_9
theorem ch9_9 : ∀ a b, a % 12 = ((9 : Nat) : Int) → b % (1 + ((9 : Nat) : Int)) = 9 → ChOk a b true := ch_fin u9_9 (tb_more (tb_more tbF_ok p9_9) q9_9) (by kernel_rfl) (by kernel_rfl) (fun _ => by kernel_rfl) 9 9 (by decide) (fun a b => by kernel_rfl)
noncomputable def d8_2 : AV := .agg [dO, .sl [mk F0 [fa, inl s1], mk F1 [fa, inl s2], mk F2 [fa, inl s3], mk F3 [fa, inl s4], mk F4 [fa, inl s5], mk F5 [fa, inl s6], mk F6 [fa, inl s7], mk F7 [fa, inl s8], mk F8 [fa, slf s2]] .dead]
theorem p8_2 : PEnt Try.prog 22 [d8_2, dS] (ns8) := PEnt.comp (n := 100) prOk cTabs tbF_ok (by kernel_rfl) (by kernel_rfl) (by kernel_rfl)
noncomputable def t8_2 : List Ent := ⟨22, [d8_2, dS], (ns8)⟩ :: tbF
theorem q8_2 : PEnt Try.prog 20 [schV, d8_2] (.int .i64 12) := PEnt.comp (l := t8_2) (n := 100) prOk cTabs (tb_more tbF_ok p8_2) (by kernel_rfl) (by kernel_rfl) (by kernel_rfl)
noncomputable def u8_2 : List Ent := ⟨20, [schV, d8_2], (.int .i64 12)⟩ :: t8_2
theorem ch8_2 : ∀ a b, a % 12 = ((8 : Nat) : Int) → b % (1 + ((8 : Nat) : Int)) = 2 → ChOk a b true := ch_fin u8_2 (tb_more (tb_more tbF_ok p8_2) q8_2) (by kernel_rfl) (by kernel_rfl) (fun _ => by kernel_rfl) 8 2 (by decide) (fun a b => by kernel_rfl)
noncomputable def d8_6 : AV := .agg [dO, .sl [mk F0 [fa, inl s1], mk F1 [fa, inl s2], mk F2 [fa, inl s3], mk F3 [fa, inl s4], mk F4 [fa, inl s5], mk F5 [fa, inl s6], mk F6 [fa, inl s7], mk F7 [fa, inl s8], mk F8 [fa, slf s6]] .dead]
theorem p8_6 : PEnt Try.prog 22 [d8_6, dS] (ns8) := PEnt.comp (n := 100) prOk cTabs tbF_ok (by kernel_rfl) (by kernel_rfl) (by kernel_rfl)
noncomputable def t8_6 : List Ent := ⟨22, [d8_6, dS], (ns8)⟩ :: tbF
theorem q8_6 : PEnt Try.prog 20 [schV, d8_6] (.int .i64 12) := PEnt.comp (l := t8_6) (n := 100) prOk cTabs (tb_more tbF_ok p8_6) (by kernel_rfl) (by kernel_rfl) (by kernel_rfl)
noncomputable def u8_6 : List Ent := ⟨20, [schV, d8_6], (.int .i64 12)⟩ :: t8_6
theorem ch8_6 : ∀ a b, a % 12 = ((8 : Nat) : Int) → b % (1 + ((8 : Nat) : Int)) = 6 → ChOk a b true := ch_fin u8_6 (tb_more (tb_more tbF_ok p8_6) q8_6) (by kernel_rfl) (by kernel_rfl) (fun _ => by kernel_rfl) 8 6 (by decide) (fun a b => by kernel_rfl)
noncomputable def d7_0 : AV := .agg [dO, .sl [mk F0 [fa, inl s1], mk F1 [fa, inl s2], mk F2 [fa, inl s3], mk F3 [fa, inl s4], mk F4 [fa, inl s5], mk F5 [fa, inl s6], mk F6 [fa, inl s7], mk F7 [fa, slf s0]] .dead]
theorem p7_0 : PEnt Try.prog 22 [d7_0, dS] (ns7) := PEnt.comp (n := 100) prOk cTabs tbF_ok (by kernel_rfl) (by kernel_rfl) (by kernel_rfl)
noncomputable def t7_0 : List Ent := ⟨22, [d7_0, dS], (ns7)⟩ :: tbF
theorem q7_0 : PEnt Try.prog 20 [schV, d7_0] (.int .i64 12) := PEnt.comp (l := t7_0) (n := 100) prOk cTabs (tb_more tbF_ok p7_0) (by kernel_rfl) (by kernel_rfl) (by kernel_rfl)
noncomputable def u7_0 : List Ent := ⟨20, [schV, d7_0], (.int .i64 12)⟩ :: t7_0
theorem ch7_0 : ∀ a b, a % 12 = ((7 : Nat) : Int) → b % (1 + ((7 : Nat) : Int)) = 0 → ChOk a b true := ch_fin u7_0 (tb_more (tb_more tbF_ok p7_0) q7_0) (by kernel_rfl) (by kernel_rfl) (fun _ => by kernel_rfl) 7 0 (by decide) (fun a b => by kernel_rfl)
noncomputable def d7_4 : AV := .agg [dO, .sl [mk F0 [fa, inl s1], mk F1 [fa, inl s2], mk F2 [fa, inl s3], mk F3 [fa, inl s4], mk F4 [fa, inl s5], mk F5 [fa, inl s6], mk F6 [fa, inl s7], mk F7 [fa, slf s4]] .dead]
theorem p7_4 : PEnt Try.prog 22 [d7_4, dS] (ns7) := PEnt.comp (n := 100) prOk cTabs tbF_ok (by kernel_rfl) (by kernel_rfl) (by kernel_rfl)
noncomputable def t7_4 : List Ent := ⟨22, [d7_4, dS], (ns7)⟩ :: tbF
theorem q7_4 : PEnt Try.prog 20 [schV, d7_4] (.int .i64 12) := PEnt.comp (l := t7_4) (n := 100) prOk cTabs (tb_more tbF_ok p7_4) (by kernel_rfl) (by kernel_rfl) (by kernel_rfl)
noncomputable def u7_4 : List Ent := ⟨20, [schV, d7_4], (.int .i64 12)⟩ :: t7_4
theorem ch7_4 : ∀ a b, a % 12 = ((7 : Nat) : Int) → b % (1 + ((7 : Nat) : Int)) = 4 → ChOk a b true := ch_fin u7_4 (tb_more (tb_more tbF_ok p7_4) q7_4) (by kernel_rfl) (by kernel_rfl) (fun _ => by kernel_rfl) 7 4 (by decide) (fun a b => by kernel_rfl)
noncomputable def d6_n : AV := .agg [dO, .sl [mk F0 [fa, inl s1], mk F1 [fa, inl s2], mk F2 [fa, inl s3], mk F3 [fa, inl s4], mk F4 [fa, inl s5], mk F5 [fa, inl s6], mk F6 [fa]] .dead]
theorem p6_n : PEnt Try.prog 22 [d6_n, dS] (ns6) := PEnt.comp (n := 100) prOk cTabs tbF_ok (by kernel_rfl) (by kernel_rfl) (by kernel_rfl)
noncomputable def t6_n : List Ent := ⟨22, [d6_n, dS], (ns6)⟩ :: tbF
theorem q6_n : PEnt Try.prog 20 [schV, d6_n] (.int .i64 0) := PEnt.comp (l := t6_n) (n := 100) prOk cTabs (tb_more tbF_ok p6_n) (by kernel_rfl) (by kernel_rfl) (by kernel_rfl)
noncomputable def u6_n : List Ent := ⟨20, [schV, d6_n], (.int .i64 0)⟩ :: t6_n
theorem ch6_n : ∀ a b, a % 12 = ((6 : Nat) : Int) → ChOk a b false := ch_fin0 u6_n (tb_more (tb_more tbF_ok p6_n) q6_n) (by kernel_rfl) (by kernel_rfl) (fun _ => by kernel_rfl) 6 (fun a b => by kernel_rfl)
noncomputable def d6_0 : AV := .agg [dO, .sl [mk F0 [fa, inl s1], mk F1 [fa, inl s2], mk F2 [fa, inl s3], mk F3 [fa, inl s4], mk F4 [fa, inl s5], mk F5 [fa, inl s6], mk F6 [fa, slf s0]] .dead]
theorem p6_0 : PEnt Try.prog 22 [d6_0, dS] (ns6) := PEnt.comp (n := 100) prOk cTabs tbF_ok (by kernel_rfl) (by kernel_rfl) (by kernel_rfl)
noncomputable def t6_0 : List Ent := ⟨22, [d6_0, dS], (ns6)⟩ :: tbF
theorem q6_0 : PEnt Try.prog 20 [schV, d6_0] (.int .i64 12) := PEnt.comp (l := t6_0) (n := 100) prOk cTabs (tb_more tbF_ok p6_0) (by kernel_rfl) (by kernel_rfl) (by kernel_rfl)
noncomputable def u6_0 : List Ent := ⟨20, [schV, d6_0], (.int .i64 12)⟩ :: t6_0
theorem ch6_0 : ∀ a b, a % 12 = ((6 : Nat) : Int) → b % (1 + ((6 : Nat) : Int)) = 0 → ChOk a b true := ch_fin u6_0 (tb_more (tb_more tbF_ok p6_0) q6_0) (by kernel_rfl) (by kernel_rfl) (fun _ => by kernel_rfl) 6 0 (by decide) (fun a b => by kernel_rfl)
noncomputable def d6_4 : AV := .agg [dO, .sl [mk F0 [fa, inl s1], mk F1 [fa, inl s2], mk F2 [fa, inl s3], mk F3 [fa, inl s4], mk F4 [fa, inl s5], mk F5 [fa, inl s6], mk F6 [fa, slf s4]] .dead]
theorem p6_4 : PEnt Try.prog 22 [d6_4, dS] (ns6) := PEnt.comp (n := 100) prOk cTabs tbF_ok (by kernel_rfl) (by kernel_rfl) (by kernel_rfl)
noncomputable def t6_4 : List Ent := ⟨22, [d6_4, dS], (ns6)⟩ :: tbF
theorem q6_4 : PEnt Try.prog 20 [schV, d6_4] (.int .i64 12) := PEnt.comp (l := t6_4) (n := 100) prOk cTabs (tb_more tbF_ok p6_4) (by kernel_rfl) (by kernel_rfl) (by kernel_rfl)
noncomputable def u6_4 : List Ent := ⟨20, [schV, d6_4], (.int .i64 12)⟩ :: t6_4
theorem ch6_4 : ∀ a b, a % 12 = ((6 : Nat) : Int) → b % (1 + ((6 : Nat) : Int)) = 4 → ChOk a b true := ch_fin u6_4 (tb_more (tb_more tbF_ok p6_4) q6_4) (by kernel_rfl) (by kernel_rfl) (fun _ => by kernel_rfl) 6 4 (by decide) (fun a b => by kernel_rfl)
noncomputable def d5_0 : AV := .agg [dO, .sl [mk F0 [fa, inl s1], mk F1 [fa, inl s2], mk F2 [fa, inl s3], mk F3 [fa, inl s4], mk F4 [fa, inl s5], mk F5 [fa, slf s0]] .dead]
theorem p5_0 : PEnt Try.prog 22 [d5_0, dS] (ns5) := PEnt.comp (n := 100) prOk cTabs tbF_ok (by kernel_rfl) (by kernel_rfl) (by kernel_rfl)
noncomputable def t5_0 : List Ent := ⟨22, [d5_0, dS], (ns5)⟩ :: tbF
theorem q5_0 : PEnt Try.prog 20 [schV, d5_0] (.int .i64 12) := PEnt.comp (l := t5_0) (n := 100) prOk cTabs (tb_more tbF_ok p5_0) (by kernel_rfl) (by kernel_rfl) (by kernel_rfl)
noncomputable def u5_0 : List Ent := ⟨20, [schV, d5_0], (.int .i64 12)⟩ :: t5_0
theorem ch5_0 : ∀ a b, a % 12 = ((5 : Nat) : Int) → b % (1 + ((5 : Nat) : Int)) = 0 → ChOk a b true := ch_fin u5_0 (tb_more (tb_more tbF_ok p5_0) q5_0) (by kernel_rfl) (by kernel_rfl) (fun _ => by kernel_rfl) 5 0 (by decide) (fun a b => by kernel_rfl)
noncomputable def d5_4 : AV := .agg [dO, .sl [mk F0 [fa, inl s1], mk F1 [fa, inl s2], mk F2 [fa, inl s3], mk F3 [fa, inl s4], mk F4 [fa, inl s5], mk F5 [fa, slf s4]] .dead]
theorem p5_4 : PEnt Try.prog 22 [d5_4, dS] (ns5) := PEnt.comp (n := 100) prOk cTabs tbF_ok (by kernel_rfl) (by kernel_rfl) (by kernel_rfl)
noncomputable def t5_4 : List Ent := ⟨22, [d5_4, dS], (ns5)⟩ :: tbF
theorem q5_4 : PEnt Try.prog 20 [schV, d5_4] (.int .i64 12) := PEnt.comp (l := t5_4) (n := 100) prOk cTabs (tb_more tbF_ok p5_4) (by kernel_rfl) (by kernel_rfl) (by kernel_rfl)
noncomputable def u5_4 : List Ent := ⟨20, [schV, d5_4], (.int .i64 12)⟩ :: t5_4
theorem ch5_4 : ∀ a b, a % 12 = ((5 : Nat) : Int) → b % (1 + ((5 : Nat) : Int)) = 4 → ChOk a b true := ch_fin u5_4 (tb_more (tb_more tbF_ok p5_4) q5_4) (by kernel_rfl) (by kernel_rfl) (fun _ => by kernel_rfl) 5 4 (by decide) (fun a b => by kernel_rfl)
noncomputable def d4_3 : AV := .agg [dO, .sl [mk F0 [fa, inl s1], mk F1 [fa, inl s2], mk F2 [fa, inl s3], mk F3 [fa, inl s4], mk F4 [fa, slf s3]] .dead]
theorem p4_3 : PEnt Try.prog 22 [d4_3, dS] (ns4) := PEnt.comp (n := 100) prOk cTabs tbF_ok (by kernel_rfl) (by kernel_rfl) (by kernel_rfl)
noncomputable def t4_3 : List Ent := ⟨22, [d4_3, dS], (ns4)⟩ :: tbF
theorem q4_3 : PEnt Try.prog 20 [schV, d4_3] (.int .i64 12) := PEnt.comp (l := t4_3) (n := 100) prOk cTabs (tb_more tbF_ok p4_3) (by kernel_rfl) (by kernel_rfl) (by kernel_rfl)
noncomputable def u4_3 : List Ent := ⟨20, [schV, d4_3], (.int .i64 12)⟩ :: t4_3
theorem ch4_3 : ∀ a b, a % 12 = ((4 : Nat) : Int) → b % (1 + ((4 : Nat) : Int)) = 3 → ChOk a b true := ch_fin u4_3 (tb_more (tb_more tbF_ok p4_3) q4_3) (by kernel_rfl) (by kernel_rfl) (fun _ => by kernel_rfl) 4 3 (by decide) (fun a b => by kernel_rfl)
noncomputable def d3_1 : AV := .agg [dO, .sl [mk F0 [fa, inl s1], mk F1 [fa, inl s2], mk F2 [fa, inl s3], mk F3 [fa, slf s1]] .dead]
theorem p3_1 : PEnt Try.prog 22 [d3_1, dS] (ns3) := PEnt.comp (n := 100) prOk cTabs tbF_ok (by kernel_rfl) (by kernel_rfl) (by kernel_rfl)
noncomputable def t3_1 : List Ent := ⟨22, [d3_1, dS], (ns3)⟩ :: tbF
theorem q3_1 : PEnt Try.prog 20 [schV, d3_1] (.int .i64 12) := PEnt.comp (l := t3_1) (n := 100) prOk cTabs (tb_more tbF_ok p3_1) (by kernel_rfl) (by kernel_rfl) (by kernel_rfl)
noncomputable def u3_1 : List Ent := ⟨20, [schV, d3_1], (.int .i64 12)⟩ :: t3_1
theorem ch3_1 : ∀ a b, a % 12 = ((3 : Nat) : Int) → b % (1 + ((3 : Nat) : Int)) = 1 → ChOk a b true := ch_fin u3_1 (tb_more (tb_more tbF_ok p3_1) q3_1) (by kernel_rfl) (by kernel_rfl) (fun _ => by kernel_rfl) 3 1 (by decide) (fun a b => by kernel_rfl)
noncomputable def d2_0 : AV := .agg [dO, .sl [mk F0 [fa, inl s1], mk F1 [fa, inl s2], mk F2 [fa, slf s0]] .dead]
theorem p2_0 : PEnt Try.prog 22 [d2_0, dS] (ns2) := PEnt.comp (n := 100) prOk cTabs tbF_ok (by kernel_rfl) (by kernel_rfl) (by kernel_rfl)
noncomputable def t2_0 : List Ent := ⟨22, [d2_0, dS], (ns2)⟩ :: tbF
theorem q2_0 : PEnt Try.prog 20 [schV, d2_0] (.int .i64 12) := PEnt.comp (l := t2_0) (n := 100) prOk cTabs (tb_more tbF_ok p2_0) (by kernel_rfl) (by kernel_rfl) (by kernel_rfl)
noncomputable def u2_0 : List Ent := ⟨20, [schV, d2_0], (.int .i64 12)⟩ :: t2_0
theorem ch2_0 : ∀ a b, a % 12 = ((2 : Nat) : Int) → b % (1 + ((2 : Nat) : Int)) = 0 → ChOk a b true := ch_fin u2_0 (tb_more (tb_more tbF_ok p2_0) q2_0) (by kernel_rfl) (by kernel_rfl) (fun _ => by kernel_rfl) 2 0 (by decide) (fun a b => by kernel_rfl)
noncomputable def d1_n : AV := .agg [dO, .sl [mk F0 [fa, inl s1], mk F1 [fa]] .dead]
theorem p1_n : PEnt Try.prog 22 [d1_n, dS] (ns1) := PEnt.comp (n := 100) prOk cTabs tbF_ok (by kernel_rfl) (by kernel_rfl) (by kernel_rfl)
noncomputable def t1_n : List Ent := ⟨22, [d1_n, dS], (ns1)⟩ :: tbF
theorem q1_n : PEnt Try.prog 20 [schV, d1_n] (.int .i64 0) := PEnt.comp (l := t1_n) (n := 100) prOk cTabs (tb_more tbF_ok p1_n) (by kernel_rfl) (by kernel_rfl) (by kernel_rfl)
noncomputable def u1_n : List Ent := ⟨20, [schV, d1_n], (.int .i64 0)⟩ :: t1_n
theorem ch1_n : ∀ a b, a % 12 = ((1 : Nat) : Int) → ChOk a b false := ch_fin0 u1_n (tb_more (tb_more tbF_ok p1_n) q1_n) (by kernel_rfl) (by kernel_rfl) (fun _ => by kernel_rfl) 1 (fun a b => by kernel_rfl)
noncomputable def d0_n : AV := .agg [dO, .sl [mk F0 [fa]] .dead]
theorem p0_n : PEnt Try.prog 22 [d0_n, dS] (ns0) := PEnt.comp (n := 100) prOk cTabs tbF_ok (by kernel_rfl) (by kernel_rfl) (by kernel_rfl)
noncomputable def t0_n : List Ent := ⟨22, [d0_n, dS], (ns0)⟩ :: tbF
theorem q0_n : PEnt Try.prog 20 [schV, d0_n] (.int .i64 0) := PEnt.comp (l := t0_n) (n := 100) prOk cTabs (tb_more tbF_ok p0_n) (by kernel_rfl) (by kernel_rfl) (by kernel_rfl)
noncomputable def u0_n : List Ent := ⟨20, [schV, d0_n], (.int .i64 0)⟩ :: t0_n
theorem ch0_n : ∀ a b, a % 12 = ((0 : Nat) : Int) → ChOk a b false := ch_fin0 u0_n (tb_more (tb_more tbF_ok p0_n) q0_n) (by kernel_rfl) (by kernel_rfl) (fun _ => by kernel_rfl) 0 (fun a b => by kernel_rfl)
end T
