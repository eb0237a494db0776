import Derived.Test.YtocngckbmjfddaaRbH
set_option linter.all false
set_option linter.unusedVariables false
set_option linter.unusedSimpArgs false
set_option maxRecDepth 100000
namespace T
open Go Go.Aes Go.Proofs
noncomputable def d11_0 : AV := .agg [dO, .sl [mk F0 [fa, inl s1], mk F1 [fa, inl s2], mk F2 [fa, inl s3], mk F3 [fa, inl s4], mk F4 [fa, inl s5], mk F5 [fa, inl s6], mk F6 [fa, inl s7], mk F7 [fa, inl s8], mk F8 [fa, inl s9], mk F9 [fa, inl s10], mk F10 [fa, inl s11], mk F11 [fa, slf s0]] .dead]
theorem p11_0 : PEnt Try.prog 22 [d11_0, dS] (ns11) := PEnt.comp (n := 100) prOk cTabs tbF_ok (by kernel_rfl) (by kernel_rfl) (by kernel_rfl)
noncomputable def t11_0 : List Ent := ⟨22, [d11_0, dS], (ns11)⟩ :: tbF
theorem q11_0 : PEnt Try.prog 20 [schV, d11_0] (.int .i64 12) := PEnt.comp (l := t11_0) (n := 100) prOk cTabs (tb_more tbF_ok p11_0) (by kernel_rfl) (by kernel_rfl) (by kernel_rfl)
noncomputable def u11_0 : List Ent := ⟨20, [schV, d11_0], (.int .i64 12)⟩ :: t11_0
theorem ch11_0 : ∀ a b, a % 12 = ((11 : Nat) : Int) → b % (1 + ((11 : Nat) : Int)) = 0 → ChOk a b true := ch_fin u11_0 (tb_more (tb_more tbF_ok p11_0) q11_0) (by kernel_rfl) (by kernel_rfl) (fun _ => by kernel_rfl) 11 0 (by decide) (fun a b => by kernel_rfl)
noncomputable def d11_4 : AV := .agg [dO, .sl [mk F0 [fa, inl s1], mk F1 [fa, inl s2], mk F2 [fa, inl s3], mk F3 [fa, inl s4], mk F4 [fa, inl s5], mk F5 [fa, inl s6], mk F6 [fa, inl s7], mk F7 [fa, inl s8], mk F8 [fa, inl s9], mk F9 [fa, inl s10], mk F10 [fa, inl s11], mk F11 [fa, slf s4]] .dead]
theorem p11_4 : PEnt Try.prog 22 [d11_4, dS] (ns11) := PEnt.comp (n := 100) prOk cTabs tbF_ok (by kernel_rfl) (by kernel_rfl) (by kernel_rfl)
noncomputable def t11_4 : List Ent := ⟨22, [d11_4, dS], (ns11)⟩ :: tbF
theorem q11_4 : PEnt Try.prog 20 [schV, d11_4] (.int .i64 12) := PEnt.comp (l := t11_4) (n := 100) prOk cTabs (tb_more tbF_ok p11_4) (by kernel_rfl) (by kernel_rfl) (by kernel_rfl)
noncomputable def u11_4 : List Ent := ⟨20, [schV, d11_4], (.int .i64 12)⟩ :: t11_4
theorem ch11_4 : ∀ a b, a % 12 = ((11 : Nat) : Int) → b % (1 + ((11 : Nat) : Int)) = 4 → ChOk a b true := ch_fin u11_4 (tb_more (tb_more tbF_ok p11_4) q11_4) (by kernel_rfl) (by kernel_rfl) (fun _ => by kernel_rfl) 11 4 (by decide) (fun a b => by kernel_rfl)
noncomputable def d11_8 : AV := .agg [dO, .sl [mk F0 [fa, inl s1], mk F1 [fa, inl s2], mk F2 [fa, inl s3], mk F3 [fa, inl s4], mk F4 [fa, inl s5], mk F5 [fa, inl s6], mk F6 [fa, inl s7], mk F7 [fa, inl s8], mk F8 [fa, inl s9], mk F9 [fa, inl s10], mk F10 [fa, inl s11], mk F11 [fa, slf s8]] .dead]
theorem p11_8 : PEnt Try.prog 22 [d11_8, dS] (ns11) := PEnt.comp (n := 100) prOk cTabs tbF_ok (by kernel_rfl) (by kernel_rfl) (by kernel_rfl)
noncomputable def t11_8 : List Ent := ⟨22, [d11_8, dS], (ns11)⟩ :: tbF
theorem q11_8 : PEnt Try.prog 20 [schV, d11_8] (.int .i64 12) := PEnt.comp (l := t11_8) (n := 100) prOk cTabs (tb_more tbF_ok p11_8) (by kernel_rfl) (by kernel_rfl) (by kernel_rfl)
noncomputable def u11_8 : List Ent := ⟨20, [schV, d11_8], (.int .i64 12)⟩ :: t11_8
theorem ch11_8 : ∀ a b, a % 12 = ((11 : Nat) : Int) → b % (1 + ((11 : Nat) : Int)) = 8 → ChOk a b true := ch_fin u11_8 (tb_more (tb_more tbF_ok p11_8) q11_8) (by kernel_rfl) (by kernel_rfl) (fun _ => by kernel_rfl) 11 8 (by decide) (fun a b => by kernel_rfl)
noncomputable def d10_n : AV := .agg [dO, .sl [mk F0 [fa, inl s1], mk F1 [fa, inl s2], mk F2 [fa, inl s3], mk F3 [fa, inl s4], mk F4 [fa, inl s5], mk F5 [fa, inl s6], mk F6 [fa, inl s7], mk F7 [fa, inl s8], mk F8 [fa, inl s9], mk F9 [fa, inl s10], mk F10 [fa]] .dead]
theorem p10_n : PEnt Try.prog 22 [d10_n, dS] (ns10) := PEnt.comp (n := 100) prOk cTabs tbF_ok (by kernel_rfl) (by kernel_rfl) (by kernel_rfl)
noncomputable def t10_n : List Ent := ⟨22, [d10_n, dS], (ns10)⟩ :: tbF
theorem q10_n : PEnt Try.prog 20 [schV, d10_n] (.int .i64 0) := PEnt.comp (l := t10_n) (n := 100) prOk cTabs (tb_more tbF_ok p10_n) (by kernel_rfl) (by kernel_rfl) (by kernel_rfl)
noncomputable def u10_n : List Ent := ⟨20, [schV, d10_n], (.int .i64 0)⟩ :: t10_n
theorem ch10_n : ∀ a b, a % 12 = ((10 : Nat) : Int) → ChOk a b false := ch_fin0 u10_n (tb_more (tb_more tbF_ok p10_n) q10_n) (by kernel_rfl) (by kernel_rfl) (fun _ => by kernel_rfl) 10 (fun a b => by kernel_rfl)
noncomputable def d10_2 : AV := .agg [dO, .sl [mk F0 [fa, inl s1], mk F1 [fa, inl s2], mk F2 [fa, inl s3], mk F3 [fa, inl s4], mk F4 [fa, inl s5], mk F5 [fa, inl s6], mk F6 [fa, inl s7], mk F7 [fa, inl s8], mk F8 [fa, inl s9], mk F9 [fa, inl s10], mk F10 [fa, slf s2]] .dead]
theorem p10_2 : PEnt Try.prog 22 [d10_2, dS] (ns10) := PEnt.comp (n := 100) prOk cTabs tbF_ok (by kernel_rfl) (by kernel_rfl) (by kernel_rfl)
noncomputable def t10_2 : List Ent := ⟨22, [d10_2, dS], (ns10)⟩ :: tbF
theorem q10_2 : PEnt Try.prog 20 [schV, d10_2] (.int .i64 12) := PEnt.comp (l := t10_2) (n := 100) prOk cTabs (tb_more tbF_ok p10_2) (by kernel_rfl) (by kernel_rfl) (by kernel_rfl)
noncomputable def u10_2 : List Ent := ⟨20, [schV, d10_2], (.int .i64 12)⟩ :: t10_2
theorem ch10_2 : ∀ a b, a % 12 = ((10 : Nat) : Int) → b % (1 + ((10 : Nat) : Int)) = 2 → ChOk a b true := ch_fin u10_2 (tb_more (tb_more tbF_ok p10_2) q10_2) (by kernel_rfl) (by kernel_rfl) (fun _ => by kernel_rfl) 10 2 (by decide) (fun a b => by kernel_rfl)
noncomputable def d10_6 : AV := .agg [dO, .sl [mk F0 [fa, inl s1], mk F1 [fa, inl s2], mk F2 [fa, inl s3], mk F3 [fa, inl s4], mk F4 [fa, inl s5], mk F5 [fa, inl s6], mk F6 [fa, inl s7], mk F7 [fa, inl s8], mk F8 [fa, inl s9], mk F9 [fa, inl s10], mk F10 [fa, slf s6]] .dead]
theorem p10_6 : PEnt Try.prog 22 [d10_6, dS] (ns10) := PEnt.comp (n := 100) prOk cTabs tbF_ok (by kernel_rfl) (by kernel_rfl) (by kernel_rfl)
noncomputable def t10_6 : List Ent := ⟨22, [d10_6, dS], (ns10)⟩ :: tbF
theorem q10_6 : PEnt Try.prog 20 [schV, d10_6] (.int .i64 12) := PEnt.comp (l := t10_6) (n := 100) prOk cTabs (tb_more tbF_ok p10_6) (by kernel_rfl) (by kernel_rfl) (by kernel_rfl)
noncomputable def u10_6 : List Ent := ⟨20, [schV, d10_6], (.int .i64 12)⟩ :: t10_6
theorem ch10_6 : ∀ a b, a % 12 = ((10 : Nat) : Int) → b % (1 + ((10 : Nat) : Int)) = 6 → ChOk a b true := ch_fin u10_6 (tb_more (tb_more tbF_ok p10_6) q10_6) (by kernel_rfl) (by kernel_rfl) (fun _ => by kernel_rfl) 10 6 (by decide) (fun a b => by kernel_rfl)
noncomputable def d10_10 : AV := .agg [dO, .sl [mk F0 [fa, inl s1], mk F1 [fa, inl s2], mk F2 [fa, inl s3], mk F3 [fa, inl s4], mk F4 [fa, inl s5], mk F5 [fa, inl s6], mk F6 [fa, inl s7], mk F7 [fa, inl s8], mk F8 [fa, inl s9], mk F9 [fa, inl s10], mk F10 [fa, slf s10]] .dead]
theorem p10_10 : PEnt Try.prog 22 [d10_10, dS] (ns10) := PEnt.comp (n := 100) prOk cTabs tbF_ok (by kernel_rfl) (by kernel_rfl) (by kernel_rfl)
noncomputable def t10_10 : List Ent := ⟨22, [d10_10, dS], (ns10)⟩ :: tbF
theorem q10_10 : PEnt Try.prog 20 [schV, d10_10] (.int .i64 12) := PEnt.comp (l := t10_10) (n := 100) prOk cTabs (tb_more tbF_ok p10_10) (by kernel_rfl) (by kernel_rfl) (by kernel_rfl)
noncomputable def u10_10 : List Ent := ⟨20, [schV, d10_10], (.int .i64 12)⟩ :: t10_10
theorem ch10_10 : ∀ a b, a % 12 = ((10 : Nat) : Int) → b % (1 + ((10 : Nat) : Int)) = 10 → ChOk a b true := ch_fin u10_10 (tb_more (tb_more tbF_ok p10_10) q10_10) (by kernel_rfl) (by kernel_rfl) (fun _ => by kernel_rfl) 10 10 (by decide) (fun a b => by kernel_rfl)
noncomputable def d9_4 : AV := .agg [dO, .sl [mk F0 [fa, inl s1], mk F1 [fa, inl s2], mk F2 [fa, inl s3], mk F3 [fa, inl s4], mk F4 [fa, inl s5], mk F5 [fa, inl s6], mk F6 [fa, inl s7], mk F7 [fa, inl s8], mk F8 [fa, inl s9], mk F9 [fa, slf s4]] .dead]
theorem p9_4 : PEnt Try.prog 22 [d9_4, dS] (ns9) := PEnt.comp (n := 100) prOk cTabs tbF_ok (by kernel_rfl) (by kernel_rfl) (by kernel_rfl)
noncomputable def t9_4 : List Ent := ⟨22, [d9_4, dS], (ns9)⟩ :: tbF
theorem q9_4 : PEnt Try.prog 20 [schV, d9_4] (.int .i64 12) := PEnt.comp (l := t9_4) (n := 100) prOk cTabs (tb_more tbF_ok p9_4) (by kernel_rfl) (by kernel_rfl) (by kernel_rfl)
noncomputable def u9_4 : List Ent := ⟨20, [schV, d9_4], (.int .i64 12)⟩ :: t9_4
theorem ch9_4 : ∀ a b, a % 12 = ((9 : Nat) : Int) → b % (1 + ((9 : Nat) : Int)) = 4 → ChOk a b true := ch_fin u9_4 (tb_more (tb_more tbF_ok p9_4) q9_4) (by kernel_rfl) (by kernel_rfl) (fun _ => by kernel_rfl) 9 4 (by decide) (fun a b => by kernel_rfl)
noncomputable def d9_8 : AV := .agg [dO, .sl [mk F0 [fa, inl s1], mk F1 [fa, inl s2], mk F2 [fa, inl s3], mk F3 [fa, inl s4], mk F4 [fa, inl s5], mk F5 [fa, inl s6], mk F6 [fa, inl s7], mk F7 [fa, inl s8], mk F8 [fa, inl s9], mk F9 [fa, slf s8]] .dead]
theorem p9_8 : PEnt Try.prog 22 [d9_8, dS] (ns9) := PEnt.comp (n := 100) prOk cTabs tbF_ok (by kernel_rfl) (by kernel_rfl) (by kernel_rfl)
noncomputable def t9_8 : List Ent := ⟨22, [d9_8, dS], (ns9)⟩ :: tbF
theorem q9_8 : PEnt Try.prog 20 [schV, d9_8] (.int .i64 12) := PEnt.comp (l := t9_8) (n := 100) prOk cTabs (tb_more tbF_ok p9_8) (by kernel_rfl) (by kernel_rfl) (by kernel_rfl)
noncomputable def u9_8 : List Ent := ⟨20, [schV, d9_8], (.int .i64 12)⟩ :: t9_8
theorem ch9_8 : ∀ a b, a % 12 = ((9 : Nat) : Int) → b % (1 + ((9 : Nat) : Int)) = 8 → ChOk a b true := ch_fin u9_8 (tb_more (tb_more tbF_ok p9_8) q9_8) (by kernel_rfl) (by kernel_rfl) (fun _ => by kernel_rfl) 9 8 (by decide) (fun a b => by kernel_rfl)
noncomputable def d8_1 : AV := .agg [dO, .sl [mk F0 [fa, inl s1], mk F1 [fa, inl s2], mk F2 [fa, inl s3], mk F3 [fa, inl s4], mk F4 [fa, inl s5], mk F5 [fa, inl s6], mk F6 [fa, inl s7], mk F7 [fa, inl s8], mk F8 [fa, slf s1]] .dead]
theorem p8_1 : PEnt Try.prog 22 [d8_1, dS] (ns8) := PEnt.comp (n := 100) prOk cTabs tbF_ok (by kernel_rfl) (by kernel_rfl) (by kernel_rfl)
noncomputable def t8_1 : List Ent := ⟨22, [d8_1, dS], (ns8)⟩ :: tbF
theorem q8_1 : PEnt Try.prog 20 [schV, d8_1] (.int .i64 12) := PEnt.comp (l := t8_1) (n := 100) prOk cTabs (tb_more tbF_ok p8_1) (by kernel_rfl) (by kernel_rfl) (by kernel_rfl)
noncomputable def u8_1 : List Ent := ⟨20, [schV, d8_1], (.int .i64 12)⟩ :: t8_1
theorem ch8_1 : ∀ a b, a % 12 = ((8 : Nat) : Int) → b % (1 + ((8 : Nat) : Int)) = 1 → ChOk a b true := ch_fin u8_1 (tb_more (tb_more tbF_ok p8_1) q8_1) (by kernel_rfl) (by kernel_rfl) (fun _ => by kernel_rfl) 8 1 (by decide) (fun a b => by kernel_rfl)
noncomputable def d8_5 : AV := .agg [dO, .sl [mk F0 [fa, inl s1], mk F1 [fa, inl s2], mk F2 [fa, inl s3], mk F3 [fa, inl s4], mk F4 [fa, inl s5], mk F5 [fa, inl s6], mk F6 [fa, inl s7], mk F7 [fa, inl s8], mk F8 [fa, slf s5]] .dead]
theorem p8_5 : PEnt Try.prog 22 [d8_5, dS] (ns8) := PEnt.comp (n := 100) prOk cTabs tbF_ok (by kernel_rfl) (by kernel_rfl) (by kernel_rfl)
noncomputable def t8_5 : List Ent := ⟨22, [d8_5, dS], (ns8)⟩ :: tbF
theorem q8_5 : PEnt Try.prog 20 [schV, d8_5] (.int .i64 12) := PEnt.comp (l := t8_5) (n := 100) prOk cTabs (tb_more tbF_ok p8_5) (by kernel_rfl) (by kernel_rfl) (by kernel_rfl)
noncomputable def u8_5 : List Ent := ⟨20, [schV, d8_5], (.int .i64 12)⟩ :: t8_5
theorem ch8_5 : ∀ a b, a % 12 = ((8 : Nat) : Int) → b % (1 + ((8 : Nat) : Int)) = 5 → ChOk a b true := ch_fin u8_5 (tb_more (tb_more tbF_ok p8_5) q8_5) (by kernel_rfl) (by kernel_rfl) (fun _ => by kernel_rfl) 8 5 (by decide) (fun a b => by kernel_rfl)
noncomputable def d7_n : AV := .agg [dO, .sl [mk F0 [fa, inl s1], mk F1 [fa, inl s2], mk F2 [fa, inl s3], mk F3 [fa, inl s4], mk F4 [fa, inl s5], mk F5 [fa, inl s6], mk F6 [fa, inl s7], mk F7 [fa]] .dead]
theorem p7_n : PEnt Try.prog 22 [d7_n, dS] (ns7) := PEnt.comp (n := 100) prOk cTabs tbF_ok (by kernel_rfl) (by kernel_rfl) (by kernel_rfl)
noncomputable def t7_n : List Ent := ⟨22, [d7_n, dS], (ns7)⟩ :: tbF
theorem q7_n : PEnt Try.prog 20 [schV, d7_n] (.int .i64 0) := PEnt.comp (l := t7_n) (n := 100) prOk cTabs (tb_more tbF_ok p7_n) (by kernel_rfl) (by kernel_rfl) (by kernel_rfl)
noncomputable def u7_n : List Ent := ⟨20, [schV, d7_n], (.int .i64 0)⟩ :: t7_n
theorem ch7_n : ∀ a b, a % 12 = ((7 : Nat) : Int) → ChOk a b false := ch_fin0 u7_n (tb_more (tb_more tbF_ok p7_n) q7_n) (by kernel_rfl) (by kernel_rfl) (fun _ => by kernel_rfl) 7 (fun a b => by kernel_rfl)
noncomputable def d7_3 : AV := .agg [dO, .sl [mk F0 [fa, inl s1], mk F1 [fa, inl s2], mk F2 [fa, inl s3], mk F3 [fa, inl s4], mk F4 [fa, inl s5], mk F5 [fa, inl s6], mk F6 [fa, inl s7], mk F7 [fa, slf s3]] .dead]
theorem p7_3 : PEnt Try.prog 22 [d7_3, dS] (ns7) := PEnt.comp (n := 100) prOk cTabs tbF_ok (by kernel_rfl) (by kernel_rfl) (by kernel_rfl)
noncomputable def t7_3 : List Ent := ⟨22, [d7_3, dS], (ns7)⟩ :: tbF
theorem q7_3 : PEnt Try.prog 20 [schV, d7_3] (.int .i64 12) := PEnt.comp (l := t7_3) (n := 100) prOk cTabs (tb_more tbF_ok p7_3) (by kernel_rfl) (by kernel_rfl) (by kernel_rfl)
noncomputable def u7_3 : List Ent := ⟨20, [schV, d7_3], (.int .i64 12)⟩ :: t7_3
theorem ch7_3 : ∀ a b, a % 12 = ((7 : Nat) : Int) → b % (1 + ((7 : Nat) : Int)) = 3 → ChOk a b true := ch_fin u7_3 (tb_more (tb_more tbF_ok p7_3) q7_3) (by kernel_rfl) (by kernel_rfl) (fun _ => by kernel_rfl) 7 3 (by decide) (fun a b => by kernel_rfl)
noncomputable def d7_7 : AV := .agg [dO, .sl [mk F0 [fa, inl s1], mk F1 [fa, inl s2], mk F2 [fa, inl s3], mk F3 [fa, inl s4], mk F4 [fa, inl s5], mk F5 [fa, inl s6], mk F6 [fa, inl s7], mk F7 [fa, slf s7]] .dead]
theorem p7_7 : PEnt Try.prog 22 [d7_7, dS] (ns7) := PEnt.comp (n := 100) prOk cTabs tbF_ok (by kernel_rfl) (by kernel_rfl) (by kernel_rfl)
noncomputable def t7_7 : List Ent := ⟨22, [d7_7, dS], (ns7)⟩ :: tbF
theorem q7_7 : PEnt Try.prog 20 [schV, d7_7] (.int .i64 12) := PEnt.comp (l := t7_7) (n := 100) prOk cTabs (tb_more tbF_ok p7_7) (by kernel_rfl) (by kernel_rfl) (by kernel_rfl)
noncomputable def u7_7 : List Ent := ⟨20, [schV, d7_7], (.int .i64 12)⟩ :: t7_7
theorem ch7_7 : ∀ a b, a % 12 = ((7 : Nat) : Int) → b % (1 + ((7 : Nat) : Int)) = 7 → ChOk a b true := ch_fin u7_7 (tb_more (tb_more tbF_ok p7_7) q7_7) (by kernel_rfl) (by kernel_rfl) (fun _ => by kernel_rfl) 7 7 (by decide) (fun a b => by kernel_rfl)
noncomputable def d6_3 : AV := .agg [dO, .sl [mk F0 [fa, inl s1], mk F1 [fa, inl s2], mk F2 [fa, inl s3], mk F3 [fa, inl s4], mk F4 [fa, inl s5], mk F5 [fa, inl s6], mk F6 [fa, slf s3]] .dead]
theorem p6_3 : PEnt Try.prog 22 [d6_3, dS] (ns6) := PEnt.comp (n := 100) prOk cTabs tbF_ok (by kernel_rfl) (by kernel_rfl) (by kernel_rfl)
noncomputable def t6_3 : List Ent := ⟨22, [d6_3, dS], (ns6)⟩ :: tbF
theorem q6_3 : PEnt Try.prog 20 [schV, d6_3] (.int .i64 12) := PEnt.comp (l := t6_3) (n := 100) prOk cTabs (tb_more tbF_ok p6_3) (by kernel_rfl) (by kernel_rfl) (by kernel_rfl)
noncomputable def u6_3 : List Ent := ⟨20, [schV, d6_3], (.int .i64 12)⟩ :: t6_3
theorem ch6_3 : ∀ a b, a % 12 = ((6 : Nat) : Int) → b % (1 + ((6 : Nat) : Int)) = 3 → ChOk a b true := ch_fin u6_3 (tb_more (tb_more tbF_ok p6_3) q6_3) (by kernel_rfl) (by kernel_rfl) (fun _ => by kernel_rfl) 6 3 (by decide) (fun a b => by kernel_rfl)
noncomputable def d5_n : AV := .agg [dO, .sl [mk F0 [fa, inl s1], mk F1 [fa, inl s2], mk F2 [fa, inl s3], mk F3 [fa, inl s4], mk F4 [fa, inl s5], mk F5 [fa]] .dead]
theorem p5_n : PEnt Try.prog 22 [d5_n, dS] (ns5) := PEnt.comp (n := 100) prOk cTabs tbF_ok (by kernel_rfl) (by kernel_rfl) (by kernel_rfl)
noncomputable def t5_n : List Ent := ⟨22, [d5_n, dS], (ns5)⟩ :: tbF
theorem q5_n : PEnt Try.prog 20 [schV, d5_n] (.int .i64 0) := PEnt.comp (l := t5_n) (n := 100) prOk cTabs (tb_more tbF_ok p5_n) (by kernel_rfl) (by kernel_rfl) (by kernel_rfl)
noncomputable def u5_n : List Ent := ⟨20, [schV, d5_n], (.int .i64 0)⟩ :: t5_n
theorem ch5_n : ∀ a b, a % 12 = ((5 : Nat) : Int) → ChOk a b false := ch_fin0 u5_n (tb_more (tb_more tbF_ok p5_n) q5_n) (by kernel_rfl) (by kernel_rfl) (fun _ => by kernel_rfl) 5 (fun a b => by kernel_rfl)
noncomputable def d5_1 : AV := .agg [dO, .sl [mk F0 [fa, inl s1], mk F1 [fa, inl s2], mk F2 [fa, inl s3], mk F3 [fa, inl s4], mk F4 [fa, inl s5], mk F5 [fa, slf s1]] .dead]
theorem p5_1 : PEnt Try.prog 22 [d5_1, dS] (ns5) := PEnt.comp (n := 100) prOk cTabs tbF_ok (by kernel_rfl) (by kernel_rfl) (by kernel_rfl)
noncomputable def t5_1 : List Ent := ⟨22, [d5_1, dS], (ns5)⟩ :: tbF
theorem q5_1 : PEnt Try.prog 20 [schV, d5_1] (.int .i64 12) := PEnt.comp (l := t5_1) (n := 100) prOk cTabs (tb_more tbF_ok p5_1) (by kernel_rfl) (by kernel_rfl) (by kernel_rfl)
noncomputable def u5_1 : List Ent := ⟨20, [schV, d5_1], (.int .i64 12)⟩ :: t5_1
theorem ch5_1 : ∀ a b, a % 12 = ((5 : Nat) : Int) → b % (1 + ((5 : Nat) : Int)) = 1 → ChOk a b true := ch_fin u5_1 (tb_more (tb_more tbF_ok p5_1) q5_1) (by kernel_rfl) (by kernel_rfl) (fun _ => by kernel_rfl) 5 1 (by decide) (fun a b => by kernel_rfl)
noncomputable def d5_5 : AV := .agg [dO, .sl [mk F0 [fa, inl s1], mk F1 [fa, inl s2], mk F2 [fa, inl s3], mk F3 [fa, inl s4], mk F4 [fa, inl s5], mk F5 [fa, slf s5]] .dead]
theorem p5_5 : PEnt Try.prog 22 [d5_5, dS] (ns5) := PEnt.comp (n := 100) prOk cTabs tbF_ok (by kernel_rfl) (by kernel_rfl) (by kernel_rfl)
noncomputable def t5_5 : List Ent := ⟨22, [d5_5, dS], (ns5)⟩ :: tbF
theorem q5_5 : PEnt Try.prog 20 [schV, d5_5] (.int .i64 12) := PEnt.comp (l := t5_5) (n := 100) prOk cTabs (tb_more tbF_ok p5_5) (by kernel_rfl) (by kernel_rfl) (by kernel_rfl)
noncomputable def u5_5 : List Ent := ⟨20, [schV, d5_5], (.int .i64 12)⟩ :: t5_5
theorem ch5_5 : ∀ a b, a % 12 = ((5 : Nat) : Int) → b % (1 + ((5 : Nat) : Int)) = 5 → ChOk a b true := ch_fin u5_5 (tb_more (tb_more tbF_ok p5_5) q5_5) (by kernel_rfl) (by kernel_rfl) (fun _ => by kernel_rfl) 5 5 (by decide) (fun a b => by kernel_rfl)
noncomputable def d4_4 : AV := .agg [dO, .sl [mk F0 [fa, inl s1], mk F1 [fa, inl s2], mk F2 [fa, inl s3], mk F3 [fa, inl s4], mk F4 [fa, slf s4]] .dead]
theorem p4_4 : PEnt Try.prog 22 [d4_4, dS] (ns4) := PEnt.comp (n := 100) prOk cTabs tbF_ok (by kernel_rfl) (by kernel_rfl) (by kernel_rfl)
noncomputable def t4_4 : List Ent := ⟨22, [d4_4, dS], (ns4)⟩ :: tbF
theorem q4_4 : PEnt Try.prog 20 [schV, d4_4] (.int .i64 12) := PEnt.comp (l := t4_4) (n := 100) prOk cTabs (tb_more tbF_ok p4_4) (by kernel_rfl) (by kernel_rfl) (by kernel_rfl)
noncomputable def u4_4 : List Ent := ⟨20, [schV, d4_4], (.int .i64 12)⟩ :: t4_4
theorem ch4_4 : ∀ a b, a % 12 = ((4 : Nat) : Int) → b % (1 + ((4 : Nat) : Int)) = 4 → ChOk a b true := ch_fin u4_4 (tb_more (tb_more tbF_ok p4_4) q4_4) (by kernel_rfl) (by kernel_rfl) (fun _ => by kernel_rfl) 4 4 (by decide) (fun a b => by kernel_rfl)
noncomputable def d3_2 : AV := .agg [dO, .sl [mk F0 [fa, inl s1], mk F1 [fa, inl s2], mk F2 [fa, inl s3], mk F3 [fa, slf s2]] .dead]
theorem p3_2 : PEnt Try.prog 22 [d3_2, dS] (ns3) := PEnt.comp (n := 100) prOk cTabs tbF_ok (by kernel_rfl) (by kernel_rfl) (by kernel_rfl)
noncomputable def t3_2 : List Ent := ⟨22, [d3_2, dS], (ns3)⟩ :: tbF
theorem q3_2 : PEnt Try.prog 20 [schV, d3_2] (.int .i64 12) := PEnt.comp (l := t3_2) (n := 100) prOk cTabs (tb_more tbF_ok p3_2) (by kernel_rfl) (by kernel_rfl) (by kernel_rfl)
noncomputable def u3_2 : List Ent := ⟨20, [schV, d3_2], (.int .i64 12)⟩ :: t3_2
theorem ch3_2 : ∀ a b, a % 12 = ((3 : Nat) : Int) → b % (1 + ((3 : Nat) : Int)) = 2 → ChOk a b true := ch_fin u3_2 (tb_more (tb_more tbF_ok p3_2) q3_2) (by kernel_rfl) (by kernel_rfl) (fun _ => by kernel_rfl) 3 2 (by decide) (fun a b => by kernel_rfl)
noncomputable def d2_1 : AV := .agg [dO, .sl [mk F0 [fa, inl s1], mk F1 [fa, inl s2], mk F2 [fa, slf s1]] .dead]
theorem p2_1 : PEnt Try.prog 22 [d2_1, dS] (ns2) := PEnt.comp (n := 100) prOk cTabs tbF_ok (by kernel_rfl) (by kernel_rfl) (by kernel_rfl)
noncomputable def t2_1 : List Ent := ⟨22, [d2_1, dS], (ns2)⟩ :: tbF
theorem q2_1 : PEnt Try.prog 20 [schV, d2_1] (.int .i64 12) := PEnt.comp (l := t2_1) (n := 100) prOk cTabs (tb_more tbF_ok p2_1) (by kernel_rfl) (by kernel_rfl) (by kernel_rfl)
noncomputable def u2_1 : List Ent := ⟨20, [schV, d2_1], (.int .i64 12)⟩ :: t2_1
theorem ch2_1 : ∀ a b, a % 12 = ((2 : Nat) : Int) → b % (1 + ((2 : Nat) : Int)) = 1 → ChOk a b true := ch_fin u2_1 (tb_more (tb_more tbF_ok p2_1) q2_1) (by kernel_rfl) (by kernel_rfl) (fun _ => by kernel_rfl) 2 1 (by decide) (fun a b => by kernel_rfl)
noncomputable def d1_0 : AV := .agg [dO, .sl [mk F0 [fa, inl s1], mk F1 [fa, slf s0]] .dead]
theorem p1_0 : PEnt Try.prog 22 [d1_0, dS] (ns1) := PEnt.comp (n := 100) prOk cTabs tbF_ok (by kernel_rfl) (by kernel_rfl) (by kernel_rfl)
noncomputable def t1_0 : List Ent := ⟨22, [d1_0, dS], (ns1)⟩ :: tbF
theorem q1_0 : PEnt Try.prog 20 [schV, d1_0] (.int .i64 12) := PEnt.comp (l := t1_0) (n := 100) prOk cTabs (tb_more tbF_ok p1_0) (by kernel_rfl) (by kernel_rfl) (by kernel_rfl)
noncomputable def u1_0 : List Ent := ⟨20, [schV, d1_0], (.int .i64 12)⟩ :: t1_0
theorem ch1_0 : ∀ a b, a % 12 = ((1 : Nat) : Int) → b % (1 + ((1 : Nat) : Int)) = 0 → ChOk a b true := ch_fin u1_0 (tb_more (tb_more tbF_ok p1_0) q1_0) (by kernel_rfl) (by kernel_rfl) (fun _ => by kernel_rfl) 1 0 (by decide) (fun a b => by kernel_rfl)
noncomputable def d0_0 : AV := .agg [dO, .sl [mk F0 [fa, slf s0]] .dead]
theorem p0_0 : PEnt Try.prog 22 [d0_0, dS] (ns0) := PEnt.comp (n := 100) prOk cTabs tbF_ok (by kernel_rfl) (by kernel_rfl) (by kernel_rfl)
noncomputable def t0_0 : List Ent := ⟨22, [d0_0, dS], (ns0)⟩ :: tbF
theorem q0_0 : PEnt Try.prog 20 [schV, d0_0] (.int .i64 12) := PEnt.comp (l := t0_0) (n := 100) prOk cTabs (tb_more tbF_ok p0_0) (by kernel_rfl) (by kernel_rfl) (by kernel_rfl)
noncomputable def u0_0 : List Ent := ⟨20, [schV, d0_0], (.int .i64 12)⟩ :: t0_0
theorem ch0_0 : ∀ a b, a % 12 = ((0 : Nat) : Int) → b % (1 + ((0 : Nat) : Int)) = 0 → ChOk a b true := ch_fin u0_0 (tb_more (tb_more tbF_ok p0_0) q0_0) (by kernel_rfl) (by kernel_rfl) (fun _ => by kernel_rfl) 0 0 (by decide) (fun a b => by kernel_rfl)
end T
