import Derived.Test.YtocngckbmjfddaaRbH
set_option linter.all false
set_option linter.unusedVariables false
set_option linter.unusedSimpArgs false
set_option maxRecDepth 100000
namespace T
open Go Go.Aes Go.Proofs
noncomputable def d11_1 : AV := .agg [dO, .sl [mk F0 [fa, inl s1], mk F1 [fa, inl s2], mk F2 [fa, inl s3], mk F3 [fa, inl s4], mk F4 [fa, inl s5], mk F5 [fa, inl s6], mk F6 [fa, inl s7], mk F7 [fa, inl s8], mk F8 [fa, inl s9], mk F9 [fa, inl s10], mk F10 [fa, inl s11], mk F11 [fa, slf s1]] .dead]
theorem p11_1 : PEnt Try.prog 22 [d11_1, dS] (ns11) := PEnt.comp (n := 100) prOk cTabs tbF_ok (by kernel_rfl) (by kernel_rfl) (by kernel_rfl)
noncomputable def t11_1 : List Ent := ⟨22, [d11_1, dS], (ns11)⟩ :: tbF
theorem q11_1 : PEnt Try.prog 20 [schV, d11_1] (.int .i64 12) := PEnt.comp (l := t11_1) (n := 100) prOk cTabs (tb_more tbF_ok p11_1) (by kernel_rfl) (by kernel_rfl) (by kernel_rfl)
noncomputable def u11_1 : List Ent := ⟨20, [schV, d11_1], (.int .i64 12)⟩ :: t11_1
theorem ch11_1 : ∀ a b, a % 12 = ((11 : Nat) : Int) → b % (1 + ((11 : Nat) : Int)) = 1 → ChOk a b true := ch_fin u11_1 (tb_more (tb_more tbF_ok p11_1) q11_1) (by kernel_rfl) (by kernel_rfl) (fun _ => by kernel_rfl) 11 1 (by decide) (fun a b => by kernel_rfl)
noncomputable def d11_5 : AV := .agg [dO, .sl [mk F0 [fa, inl s1], mk F1 [fa, inl s2], mk F2 [fa, inl s3], mk F3 [fa, inl s4], mk F4 [fa, inl s5], mk F5 [fa, inl s6], mk F6 [fa, inl s7], mk F7 [fa, inl s8], mk F8 [fa, inl s9], mk F9 [fa, inl s10], mk F10 [fa, inl s11], mk F11 [fa, slf s5]] .dead]
theorem p11_5 : PEnt Try.prog 22 [d11_5, dS] (ns11) := PEnt.comp (n := 100) prOk cTabs tbF_ok (by kernel_rfl) (by kernel_rfl) (by kernel_rfl)
noncomputable def t11_5 : List Ent := ⟨22, [d11_5, dS], (ns11)⟩ :: tbF
theorem q11_5 : PEnt Try.prog 20 [schV, d11_5] (.int .i64 12) := PEnt.comp (l := t11_5) (n := 100) prOk cTabs (tb_more tbF_ok p11_5) (by kernel_rfl) (by kernel_rfl) (by kernel_rfl)
noncomputable def u11_5 : List Ent := ⟨20, [schV, d11_5], (.int .i64 12)⟩ :: t11_5
theorem ch11_5 : ∀ a b, a % 12 = ((11 : Nat) : Int) → b % (1 + ((11 : Nat) : Int)) = 5 → ChOk a b true := ch_fin u11_5 (tb_more (tb_more tbF_ok p11_5) q11_5) (by kernel_rfl) (by kernel_rfl) (fun _ => by kernel_rfl) 11 5 (by decide) (fun a b => by kernel_rfl)
noncomputable def d11_9 : AV := .agg [dO, .sl [mk F0 [fa, inl s1], mk F1 [fa, inl s2], mk F2 [fa, inl s3], mk F3 [fa, inl s4], mk F4 [fa, inl s5], mk F5 [fa, inl s6], mk F6 [fa, inl s7], mk F7 [fa, inl s8], mk F8 [fa, inl s9], mk F9 [fa, inl s10], mk F10 [fa, inl s11], mk F11 [fa, slf s9]] .dead]
theorem p11_9 : PEnt Try.prog 22 [d11_9, dS] (ns11) := PEnt.comp (n := 100) prOk cTabs tbF_ok (by kernel_rfl) (by kernel_rfl) (by kernel_rfl)
noncomputable def t11_9 : List Ent := ⟨22, [d11_9, dS], (ns11)⟩ :: tbF
theorem q11_9 : PEnt Try.prog 20 [schV, d11_9] (.int .i64 12) := PEnt.comp (l := t11_9) (n := 100) prOk cTabs (tb_more tbF_ok p11_9) (by kernel_rfl) (by kernel_rfl) (by kernel_rfl)
noncomputable def u11_9 : List Ent := ⟨20, [schV, d11_9], (.int .i64 12)⟩ :: t11_9
theorem ch11_9 : ∀ a b, a % 12 = ((11 : Nat) : Int) → b % (1 + ((11 : Nat) : Int)) = 9 → ChOk a b true := ch_fin u11_9 (tb_more (tb_more tbF_ok p11_9) q11_9) (by kernel_rfl) (by kernel_rfl) (fun _ => by kernel_rfl) 11 9 (by decide) (fun a b => by kernel_rfl)
noncomputable def d10_0 : AV := .agg [dO, .sl [mk F0 [fa, inl s1], mk F1 [fa, inl s2], mk F2 [fa, inl s3], mk F3 [fa, inl s4], mk F4 [fa, inl s5], mk F5 [fa, inl s6], mk F6 [fa, inl s7], mk F7 [fa, inl s8], mk F8 [fa, inl s9], mk F9 [fa, inl s10], mk F10 [fa, slf s0]] .dead]
theorem p10_0 : PEnt Try.prog 22 [d10_0, dS] (ns10) := PEnt.comp (n := 100) prOk cTabs tbF_ok (by kernel_rfl) (by kernel_rfl) (by kernel_rfl)
noncomputable def t10_0 : List Ent := ⟨22, [d10_0, dS], (ns10)⟩ :: tbF
theorem q10_0 : PEnt Try.prog 20 [schV, d10_0] (.int .i64 12) := PEnt.comp (l := t10_0) (n := 100) prOk cTabs (tb_more tbF_ok p10_0) (by kernel_rfl) (by kernel_rfl) (by kernel_rfl)
noncomputable def u10_0 : List Ent := ⟨20, [schV, d10_0], (.int .i64 12)⟩ :: t10_0
theorem ch10_0 : ∀ a b, a % 12 = ((10 : Nat) : Int) → b % (1 + ((10 : Nat) : Int)) = 0 → ChOk a b true := ch_fin u10_0 (tb_more (tb_more tbF_ok p10_0) q10_0) (by kernel_rfl) (by kernel_rfl) (fun _ => by kernel_rfl) 10 0 (by decide) (fun a b => by kernel_rfl)
noncomputable def d10_3 : AV := .agg [dO, .sl [mk F0 [fa, inl s1], mk F1 [fa, inl s2], mk F2 [fa, inl s3], mk F3 [fa, inl s4], mk F4 [fa, inl s5], mk F5 [fa, inl s6], mk F6 [fa, inl s7], mk F7 [fa, inl s8], mk F8 [fa, inl s9], mk F9 [fa, inl s10], mk F10 [fa, slf s3]] .dead]
theorem p10_3 : PEnt Try.prog 22 [d10_3, dS] (ns10) := PEnt.comp (n := 100) prOk cTabs tbF_ok (by kernel_rfl) (by kernel_rfl) (by kernel_rfl)
noncomputable def t10_3 : List Ent := ⟨22, [d10_3, dS], (ns10)⟩ :: tbF
theorem q10_3 : PEnt Try.prog 20 [schV, d10_3] (.int .i64 12) := PEnt.comp (l := t10_3) (n := 100) prOk cTabs (tb_more tbF_ok p10_3) (by kernel_rfl) (by kernel_rfl) (by kernel_rfl)
noncomputable def u10_3 : List Ent := ⟨20, [schV, d10_3], (.int .i64 12)⟩ :: t10_3
theorem ch10_3 : ∀ a b, a % 12 = ((10 : Nat) : Int) → b % (1 + ((10 : Nat) : Int)) = 3 → ChOk a b true := ch_fin u10_3 (tb_more (tb_more tbF_ok p10_3) q10_3) (by kernel_rfl) (by kernel_rfl) (fun _ => by kernel_rfl) 10 3 (by decide) (fun a b => by kernel_rfl)
noncomputable def d10_7 : AV := .agg [dO, .sl [mk F0 [fa, inl s1], mk F1 [fa, inl s2], mk F2 [fa, inl s3], mk F3 [fa, inl s4], mk F4 [fa, inl s5], mk F5 [fa, inl s6], mk F6 [fa, inl s7], mk F7 [fa, inl s8], mk F8 [fa, inl s9], mk F9 [fa, inl s10], mk F10 [fa, slf s7]] .dead]
theorem p10_7 : PEnt Try.prog 22 [d10_7, dS] (ns10) := PEnt.comp (n := 100) prOk cTabs tbF_ok (by kernel_rfl) (by kernel_rfl) (by kernel_rfl)
noncomputable def t10_7 : List Ent := ⟨22, [d10_7, dS], (ns10)⟩ :: tbF
theorem q10_7 : PEnt Try.prog 20 [schV, d10_7] (.int .i64 12) := PEnt.comp (l := t10_7) (n := 100) prOk cTabs (tb_more tbF_ok p10_7) (by kernel_rfl) (by kernel_rfl) (by kernel_rfl)
noncomputable def u10_7 : List Ent := ⟨20, [schV, d10_7], (.int .i64 12)⟩ :: t10_7
theorem ch10_7 : ∀ a b, a % 12 = ((10 : Nat) : Int) → b % (1 + ((10 : Nat) : Int)) = 7 → ChOk a b true := ch_fin u10_7 (tb_more (tb_more tbF_ok p10_7) q10_7) (by kernel_rfl) (by kernel_rfl) (fun _ => by kernel_rfl) 10 7 (by decide) (fun a b => by kernel_rfl)
noncomputable def d9_n : AV := .agg [dO, .sl [mk F0 [fa, inl s1], mk F1 [fa, inl s2], mk F2 [fa, inl s3], mk F3 [fa, inl s4], mk F4 [fa, inl s5], mk F5 [fa, inl s6], mk F6 [fa, inl s7], mk F7 [fa, inl s8], mk F8 [fa, inl s9], mk F9 [fa]] .dead]
theorem p9_n : PEnt Try.prog 22 [d9_n, dS] (ns9) := PEnt.comp (n := 100) prOk cTabs tbF_ok (by kernel_rfl) (by kernel_rfl) (by kernel_rfl)
noncomputable def t9_n : List Ent := ⟨22, [d9_n, dS], (ns9)⟩ :: tbF
theorem q9_n : PEnt Try.prog 20 [schV, d9_n] (.int .i64 0) := PEnt.comp (l := t9_n) (n := 100) prOk cTabs (tb_more tbF_ok p9_n) (by kernel_rfl) (by kernel_rfl) (by kernel_rfl)
noncomputable def u9_n : List Ent := ⟨20, [schV, d9_n], (.int .i64 0)⟩ :: t9_n
theorem ch9_n : ∀ a b, a % 12 = ((9 : Nat) : Int) → ChOk a b false := ch_fin0 u9_n (tb_more (tb_more tbF_ok p9_n) q9_n) (by kernel_rfl) (by kernel_rfl) (fun _ => by kernel_rfl) 9 (fun a b => by kernel_rfl)
noncomputable def d9_2 : AV := .agg [dO, .sl [mk F0 [fa, inl s1], mk F1 [fa, inl s2], mk F2 [fa, inl s3], mk F3 [fa, inl s4], mk F4 [fa, inl s5], mk F5 [fa, inl s6], mk F6 [fa, inl s7], mk F7 [fa, inl s8], mk F8 [fa, inl s9], mk F9 [fa, slf s2]] .dead]
theorem p9_2 : PEnt Try.prog 22 [d9_2, dS] (ns9) := PEnt.comp (n := 100) prOk cTabs tbF_ok (by kernel_rfl) (by kernel_rfl) (by kernel_rfl)
noncomputable def t9_2 : List Ent := ⟨22, [d9_2, dS], (ns9)⟩ :: tbF
theorem q9_2 : PEnt Try.prog 20 [schV, d9_2] (.int .i64 12) := PEnt.comp (l := t9_2) (n := 100) prOk cTabs (tb_more tbF_ok p9_2) (by kernel_rfl) (by kernel_rfl) (by kernel_rfl)
noncomputable def u9_2 : List Ent := ⟨20, [schV, d9_2], (.int .i64 12)⟩ :: t9_2
theorem ch9_2 : ∀ a b, a % 12 = ((9 : Nat) : Int) → b % (1 + ((9 : Nat) : Int)) = 2 → ChOk a b true := ch_fin u9_2 (tb_more (tb_more tbF_ok p9_2) q9_2) (by kernel_rfl) (by kernel_rfl) (fun _ => by kernel_rfl) 9 2 (by decide) (fun a b => by kernel_rfl)
noncomputable def d9_6 : AV := .agg [dO, .sl [mk F0 [fa, inl s1], mk F1 [fa, inl s2], mk F2 [fa, inl s3], mk F3 [fa, inl s4], mk F4 [fa, inl s5], mk F5 [fa, inl s6], mk F6 [fa, inl s7], mk F7 [fa, inl s8], mk F8 [fa, inl s9], mk F9 [fa, slf s6]] .dead]
theorem p9_6 : PEnt Try.prog 22 [d9_6, dS] (ns9) := PEnt.comp (n := 100) prOk cTabs tbF_ok (by kernel_rfl) (by kernel_rfl) (by kernel_rfl)
noncomputable def t9_6 : List Ent := ⟨22, [d9_6, dS], (ns9)⟩ :: tbF
theorem q9_6 : PEnt Try.prog 20 [schV, d9_6] (.int .i64 12) := PEnt.comp (l := t9_6) (n := 100) prOk cTabs (tb_more tbF_ok p9_6) (by kernel_rfl) (by kernel_rfl) (by kernel_rfl)
noncomputable def u9_6 : List Ent := ⟨20, [schV, d9_6], (.int .i64 12)⟩ :: t9_6
theorem ch9_6 : ∀ a b, a % 12 = ((9 : Nat) : Int) → b % (1 + ((9 : Nat) : Int)) = 6 → ChOk a b true := ch_fin u9_6 (tb_more (tb_more tbF_ok p9_6) q9_6) (by kernel_rfl) (by kernel_rfl) (fun _ => by kernel_rfl) 9 6 (by decide) (fun a b => by kernel_rfl)
noncomputable def d8_n : AV := .agg [dO, .sl [mk F0 [fa, inl s1], mk F1 [fa, inl s2], mk F2 [fa, inl s3], mk F3 [fa, inl s4], mk F4 [fa, inl s5], mk F5 [fa, inl s6], mk F6 [fa, inl s7], mk F7 [fa, inl s8], mk F8 [fa]] .dead]
theorem p8_n : PEnt Try.prog 22 [d8_n, dS] (ns8) := PEnt.comp (n := 100) prOk cTabs tbF_ok (by kernel_rfl) (by kernel_rfl) (by kernel_rfl)
noncomputable def t8_n : List Ent := ⟨22, [d8_n, dS], (ns8)⟩ :: tbF
theorem q8_n : PEnt Try.prog 20 [schV, d8_n] (.int .i64 0) := PEnt.comp (l := t8_n) (n := 100) prOk cTabs (tb_more tbF_ok p8_n) (by kernel_rfl) (by kernel_rfl) (by kernel_rfl)
noncomputable def u8_n : List Ent := ⟨20, [schV, d8_n], (.int .i64 0)⟩ :: t8_n
theorem ch8_n : ∀ a b, a % 12 = ((8 : Nat) : Int) → ChOk a b false := ch_fin0 u8_n (tb_more (tb_more tbF_ok p8_n) q8_n) (by kernel_rfl) (by kernel_rfl) (fun _ => by kernel_rfl) 8 (fun a b => by kernel_rfl)
noncomputable def d8_3 : AV := .agg [dO, .sl [mk F0 [fa, inl s1], mk F1 [fa, inl s2], mk F2 [fa, inl s3], mk F3 [fa, inl s4], mk F4 [fa, inl s5], mk F5 [fa, inl s6], mk F6 [fa, inl s7], mk F7 [fa, inl s8], mk F8 [fa, slf s3]] .dead]
theorem p8_3 : PEnt Try.prog 22 [d8_3, dS] (ns8) := PEnt.comp (n := 100) prOk cTabs tbF_ok (by kernel_rfl) (by kernel_rfl) (by kernel_rfl)
noncomputable def t8_3 : List Ent := ⟨22, [d8_3, dS], (ns8)⟩ :: tbF
theorem q8_3 : PEnt Try.prog 20 [schV, d8_3] (.int .i64 12) := PEnt.comp (l := t8_3) (n := 100) prOk cTabs (tb_more tbF_ok p8_3) (by kernel_rfl) (by kernel_rfl) (by kernel_rfl)
noncomputable def u8_3 : List Ent := ⟨20, [schV, d8_3], (.int .i64 12)⟩ :: t8_3
theorem ch8_3 : ∀ a b, a % 12 = ((8 : Nat) : Int) → b % (1 + ((8 : Nat) : Int)) = 3 → ChOk a b true := ch_fin u8_3 (tb_more (tb_more tbF_ok p8_3) q8_3) (by kernel_rfl) (by kernel_rfl) (fun _ => by kernel_rfl) 8 3 (by decide) (fun a b => by kernel_rfl)
noncomputable def d8_7 : AV := .agg [dO, .sl [mk F0 [fa, inl s1], mk F1 [fa, inl s2], mk F2 [fa, inl s3], mk F3 [fa, inl s4], mk F4 [fa, inl s5], mk F5 [fa, inl s6], mk F6 [fa, inl s7], mk F7 [fa, inl s8], mk F8 [fa, slf s7]] .dead]
theorem p8_7 : PEnt Try.prog 22 [d8_7, dS] (ns8) := PEnt.comp (n := 100) prOk cTabs tbF_ok (by kernel_rfl) (by kernel_rfl) (by kernel_rfl)
noncomputable def t8_7 : List Ent := ⟨22, [d8_7, dS], (ns8)⟩ :: tbF
theorem q8_7 : PEnt Try.prog 20 [schV, d8_7] (.int .i64 12) := PEnt.comp (l := t8_7) (n := 100) prOk cTabs (tb_more tbF_ok p8_7) (by kernel_rfl) (by kernel_rfl) (by kernel_rfl)
noncomputable def u8_7 : List Ent := ⟨20, [schV, d8_7], (.int .i64 12)⟩ :: t8_7
theorem ch8_7 : ∀ a b, a % 12 = ((8 : Nat) : Int) → b % (1 + ((8 : Nat) : Int)) = 7 → ChOk a b true := ch_fin u8_7 (tb_more (tb_more tbF_ok p8_7) q8_7) (by kernel_rfl) (by kernel_rfl) (fun _ => by kernel_rfl) 8 7 (by decide) (fun a b => by kernel_rfl)
noncomputable def d7_1 : AV := .agg [dO, .sl [mk F0 [fa, inl s1], mk F1 [fa, inl s2], mk F2 [fa, inl s3], mk F3 [fa, inl s4], mk F4 [fa, inl s5], mk F5 [fa, inl s6], mk F6 [fa, inl s7], mk F7 [fa, slf s1]] .dead]
theorem p7_1 : PEnt Try.prog 22 [d7_1, dS] (ns7) := PEnt.comp (n := 100) prOk cTabs tbF_ok (by kernel_rfl) (by kernel_rfl) (by kernel_rfl)
noncomputable def t7_1 : List Ent := ⟨22, [d7_1, dS], (ns7)⟩ :: tbF
theorem q7_1 : PEnt Try.prog 20 [schV, d7_1] (.int .i64 12) := PEnt.comp (l := t7_1) (n := 100) prOk cTabs (tb_more tbF_ok p7_1) (by kernel_rfl) (by kernel_rfl) (by kernel_rfl)
noncomputable def u7_1 : List Ent := ⟨20, [schV, d7_1], (.int .i64 12)⟩ :: t7_1
theorem ch7_1 : ∀ a b, a % 12 = ((7 : Nat) : Int) → b % (1 + ((7 : Nat) : Int)) = 1 → ChOk a b true := ch_fin u7_1 (tb_more (tb_more tbF_ok p7_1) q7_1) (by kernel_rfl) (by kernel_rfl) (fun _ => by kernel_rfl) 7 1 (by decide) (fun a b => by kernel_rfl)
noncomputable def d7_5 : AV := .agg [dO, .sl [mk F0 [fa, inl s1], mk F1 [fa, inl s2], mk F2 [fa, inl s3], mk F3 [fa, inl s4], mk F4 [fa, inl s5], mk F5 [fa, inl s6], mk F6 [fa, inl s7], mk F7 [fa, slf s5]] .dead]
theorem p7_5 : PEnt Try.prog 22 [d7_5, dS] (ns7) := PEnt.comp (n := 100) prOk cTabs tbF_ok (by kernel_rfl) (by kernel_rfl) (by kernel_rfl)
noncomputable def t7_5 : List Ent := ⟨22, [d7_5, dS], (ns7)⟩ :: tbF
theorem q7_5 : PEnt Try.prog 20 [schV, d7_5] (.int .i64 12) := PEnt.comp (l := t7_5) (n := 100) prOk cTabs (tb_more tbF_ok p7_5) (by kernel_rfl) (by kernel_rfl) (by kernel_rfl)
noncomputable def u7_5 : List Ent := ⟨20, [schV, d7_5], (.int .i64 12)⟩ :: t7_5
theorem ch7_5 : ∀ a b, a % 12 = ((7 : Nat) : Int) → b % (1 + ((7 : Nat) : Int)) = 5 → ChOk a b true := ch_fin u7_5 (tb_more (tb_more tbF_ok p7_5) q7_5) (by kernel_rfl) (by kernel_rfl) (fun _ => by kernel_rfl) 7 5 (by decide) (fun a b => by kernel_rfl)
noncomputable def d6_1 : AV := .agg [dO, .sl [mk F0 [fa, inl s1], mk F1 [fa, inl s2], mk F2 [fa, inl s3], mk F3 [fa, inl s4], mk F4 [fa, inl s5], mk F5 [fa, inl s6], mk F6 [fa, slf s1]] .dead]
theorem p6_1 : PEnt Try.prog 22 [d6_1, dS] (ns6) := PEnt.comp (n := 100) prOk cTabs tbF_ok (by kernel_rfl) (by kernel_rfl) (by kernel_rfl)
noncomputable def t6_1 : List Ent := ⟨22, [d6_1, dS], (ns6)⟩ :: tbF
theorem q6_1 : PEnt Try.prog 20 [schV, d6_1] (.int .i64 12) := PEnt.comp (l := t6_1) (n := 100) prOk cTabs (tb_more tbF_ok p6_1) (by kernel_rfl) (by kernel_rfl) (by kernel_rfl)
noncomputable def u6_1 : List Ent := ⟨20, [schV, d6_1], (.int .i64 12)⟩ :: t6_1
theorem ch6_1 : ∀ a b, a % 12 = ((6 : Nat) : Int) → b % (1 + ((6 : Nat) : Int)) = 1 → ChOk a b true := ch_fin u6_1 (tb_more (tb_more tbF_ok p6_1) q6_1) (by kernel_rfl) (by kernel_rfl) (fun _ => by kernel_rfl) 6 1 (by decide) (fun a b => by kernel_rfl)
noncomputable def d6_5 : AV := .agg [dO, .sl [mk F0 [fa, inl s1], mk F1 [fa, inl s2], mk F2 [fa, inl s3], mk F3 [fa, inl s4], mk F4 [fa, inl s5], mk F5 [fa, inl s6], mk F6 [fa, slf s5]] .dead]
theorem p6_5 : PEnt Try.prog 22 [d6_5, dS] (ns6) := PEnt.comp (n := 100) prOk cTabs tbF_ok (by kernel_rfl) (by kernel_rfl) (by kernel_rfl)
noncomputable def t6_5 : List Ent := ⟨22, [d6_5, dS], (ns6)⟩ :: tbF
theorem q6_5 : PEnt Try.prog 20 [schV, d6_5] (.int .i64 12) := PEnt.comp (l := t6_5) (n := 100) prOk cTabs (tb_more tbF_ok p6_5) (by kernel_rfl) (by kernel_rfl) (by kernel_rfl)
noncomputable def u6_5 : List Ent := ⟨20, [schV, d6_5], (.int .i64 12)⟩ :: t6_5
theorem ch6_5 : ∀ a b, a % 12 = ((6 : Nat) : Int) → b % (1 + ((6 : Nat) : Int)) = 5 → ChOk a b true := ch_fin u6_5 (tb_more (tb_more tbF_ok p6_5) q6_5) (by kernel_rfl) (by kernel_rfl) (fun _ => by kernel_rfl) 6 5 (by decide) (fun a b => by kernel_rfl)
noncomputable def d5_2 : AV := .agg [dO, .sl [mk F0 [fa, inl s1], mk F1 [fa, inl s2], mk F2 [fa, inl s3], mk F3 [fa, inl s4], mk F4 [fa, inl s5], mk F5 [fa, slf s2]] .dead]
theorem p5_2 : PEnt Try.prog 22 [d5_2, dS] (ns5) := PEnt.comp (n := 100) prOk cTabs tbF_ok (by kernel_rfl) (by kernel_rfl) (by kernel_rfl)
noncomputable def t5_2 : List Ent := ⟨22, [d5_2, dS], (ns5)⟩ :: tbF
theorem q5_2 : PEnt Try.prog 20 [schV, d5_2] (.int .i64 12) := PEnt.comp (l := t5_2) (n := 100) prOk cTabs (tb_more tbF_ok p5_2) (by kernel_rfl) (by kernel_rfl) (by kernel_rfl)
noncomputable def u5_2 : List Ent := ⟨20, [schV, d5_2], (.int .i64 12)⟩ :: t5_2
theorem ch5_2 : ∀ a b, a % 12 = ((5 : Nat) : Int) → b % (1 + ((5 : Nat) : Int)) = 2 → ChOk a b true := ch_fin u5_2 (tb_more (tb_more tbF_ok p5_2) q5_2) (by kernel_rfl) (by kernel_rfl) (fun _ => by kernel_rfl) 5 2 (by decide) (fun a b => by kernel_rfl)
noncomputable def d4_n : AV := .agg [dO, .sl [mk F0 [fa, inl s1], mk F1 [fa, inl s2], mk F2 [fa, inl s3], mk F3 [fa, inl s4], mk F4 [fa]] .dead]
theorem p4_n : PEnt Try.prog 22 [d4_n, dS] (ns4) := PEnt.comp (n := 100) prOk cTabs tbF_ok (by kernel_rfl) (by kernel_rfl) (by kernel_rfl)
noncomputable def t4_n : List Ent := ⟨22, [d4_n, dS], (ns4)⟩ :: tbF
theorem q4_n : PEnt Try.prog 20 [schV, d4_n] (.int .i64 0) := PEnt.comp (l := t4_n) (n := 100) prOk cTabs (tb_more tbF_ok p4_n) (by kernel_rfl) (by kernel_rfl) (by kernel_rfl)
noncomputable def u4_n : List Ent := ⟨20, [schV, d4_n], (.int .i64 0)⟩ :: t4_n
theorem ch4_n : ∀ a b, a % 12 = ((4 : Nat) : Int) → ChOk a b false := ch_fin0 u4_n (tb_more (tb_more tbF_ok p4_n) q4_n) (by kernel_rfl) (by kernel_rfl) (fun _ => by kernel_rfl) 4 (fun a b => by kernel_rfl)
noncomputable def d4_1 : AV := .agg [dO, .sl [mk F0 [fa, inl s1], mk F1 [fa, inl s2], mk F2 [fa, inl s3], mk F3 [fa, inl s4], mk F4 [fa, slf s1]] .dead]
theorem p4_1 : PEnt Try.prog 22 [d4_1, dS] (ns4) := PEnt.comp (n := 100) prOk cTabs tbF_ok (by kernel_rfl) (by kernel_rfl) (by kernel_rfl)
noncomputable def t4_1 : List Ent := ⟨22, [d4_1, dS], (ns4)⟩ :: tbF
theorem q4_1 : PEnt Try.prog 20 [schV, d4_1] (.int .i64 12) := PEnt.comp (l := t4_1) (n := 100) prOk cTabs (tb_more tbF_ok p4_1) (by kernel_rfl) (by kernel_rfl) (by kernel_rfl)
noncomputable def u4_1 : List Ent := ⟨20, [schV, d4_1], (.int .i64 12)⟩ :: t4_1
theorem ch4_1 : ∀ a b, a % 12 = ((4 : Nat) : Int) → b % (1 + ((4 : Nat) : Int)) = 1 → ChOk a b true := ch_fin u4_1 (tb_more (tb_more tbF_ok p4_1) q4_1) (by kernel_rfl) (by kernel_rfl) (fun _ => by kernel_rfl) 4 1 (by decide) (fun a b => by kernel_rfl)
noncomputable def d3_n : AV := .agg [dO, .sl [mk F0 [fa, inl s1], mk F1 [fa, inl s2], mk F2 [fa, inl s3], mk F3 [fa]] .dead]
theorem p3_n : PEnt Try.prog 22 [d3_n, dS] (ns3) := PEnt.comp (n := 100) prOk cTabs tbF_ok (by kernel_rfl) (by kernel_rfl) (by kernel_rfl)
noncomputable def t3_n : List Ent := ⟨22, [d3_n, dS], (ns3)⟩ :: tbF
theorem q3_n : PEnt Try.prog 20 [schV, d3_n] (.int .i64 0) := PEnt.comp (l := t3_n) (n := 100) prOk cTabs (tb_more tbF_ok p3_n) (by kernel_rfl) (by kernel_rfl) (by kernel_rfl)
noncomputable def u3_n : List Ent := ⟨20, [schV, d3_n], (.int .i64 0)⟩ :: t3_n
theorem ch3_n : ∀ a b, a % 12 = ((3 : Nat) : Int) → ChOk a b false := ch_fin0 u3_n (tb_more (tb_more tbF_ok p3_n) q3_n) (by kernel_rfl) (by kernel_rfl) (fun _ => by kernel_rfl) 3 (fun a b => by kernel_rfl)
noncomputable def d3_3 : AV := .agg [dO, .sl [mk F0 [fa, inl s1], mk F1 [fa, inl s2], mk F2 [fa, inl s3], mk F3 [fa, slf s3]] .dead]
theorem p3_3 : PEnt Try.prog 22 [d3_3, dS] (ns3) := PEnt.comp (n := 100) prOk cTabs tbF_ok (by kernel_rfl) (by kernel_rfl) (by kernel_rfl)
noncomputable def t3_3 : List Ent := ⟨22, [d3_3, dS], (ns3)⟩ :: tbF
theorem q3_3 : PEnt Try.prog 20 [schV, d3_3] (.int .i64 12) := PEnt.comp (l := t3_3) (n := 100) prOk cTabs (tb_more tbF_ok p3_3) (by kernel_rfl) (by kernel_rfl) (by kernel_rfl)
noncomputable def u3_3 : List Ent := ⟨20, [schV, d3_3], (.int .i64 12)⟩ :: t3_3
theorem ch3_3 : ∀ a b, a % 12 = ((3 : Nat) : Int) → b % (1 + ((3 : Nat) : Int)) = 3 → ChOk a b true := ch_fin u3_3 (tb_more (tb_more tbF_ok p3_3) q3_3) (by kernel_rfl) (by kernel_rfl) (fun _ => by kernel_rfl) 3 3 (by decide) (fun a b => by kernel_rfl)
noncomputable def d1_1 : AV := .agg [dO, .sl [mk F0 [fa, inl s1], mk F1 [fa, slf s1]] .dead]
theorem p1_1 : PEnt Try.prog 22 [d1_1, dS] (ns1) := PEnt.comp (n := 100) prOk cTabs tbF_ok (by kernel_rfl) (by kernel_rfl) (by kernel_rfl)
noncomputable def t1_1 : List Ent := ⟨22, [d1_1, dS], (ns1)⟩ :: tbF
theorem q1_1 : PEnt Try.prog 20 [schV, d1_1] (.int .i64 12) := PEnt.comp (l := t1_1) (n := 100) prOk cTabs (tb_more tbF_ok p1_1) (by kernel_rfl) (by kernel_rfl) (by kernel_rfl)
noncomputable def u1_1 : List Ent := ⟨20, [schV, d1_1], (.int .i64 12)⟩ :: t1_1
theorem ch1_1 : ∀ a b, a % 12 = ((1 : Nat) : Int) → b % (1 + ((1 : Nat) : Int)) = 1 → ChOk a b true := ch_fin u1_1 (tb_more (tb_more tbF_ok p1_1) q1_1) (by kernel_rfl) (by kernel_rfl) (fun _ => by kernel_rfl) 1 1 (by decide) (fun a b => by kernel_rfl)
end T
