import Derived.Test.YtocngckbmjfddaaRbH
set_option linter.all false
set_option linter.unusedVariables false
set_option linter.unusedSimpArgs false
set_option maxRecDepth 100000
namespace T
open Go Go.Aes Go.Proofs
noncomputable def d11_2 : AV := .agg [dO, .sl [mk F0 [fa, inl s1], mk F1 [fa, inl s2], mk F2 [fa, inl s3], mk F3 [fa, inl s4], mk F4 [fa, inl s5], mk F5 [fa, inl s6], mk F6 [fa, inl s7], mk F7 [fa, inl s8], mk F8 [fa, inl s9], mk F9 [fa, inl s10], mk F10 [fa, inl s11], mk F11 [fa, slf s2]] .dead]
theorem p11_2 : PEnt Try.prog 22 [d11_2, dS] (ns11) := PEnt.comp (n := 100) prOk cTabs tbF_ok (by kernel_rfl) (by kernel_rfl) (by kernel_rfl)
noncomputable def t11_2 : List Ent := ⟨22, [d11_2, dS], (ns11)⟩ :: tbF
theorem q11_2 : PEnt Try.prog 20 [schV, d11_2] (.int .i64 12) := PEnt.comp (l := t11_2) (n := 100) prOk cTabs (tb_more tbF_ok p11_2) (by kernel_rfl) (by kernel_rfl) (by kernel_rfl)
noncomputable def u11_2 : List Ent := ⟨20, [schV, d11_2], (.int .i64 12)⟩ :: t11_2
theorem ch11_2 : ∀ a b, a % 12 = ((11 : Nat) : Int) → b % (1 + ((11 : Nat) : Int)) = 2 → ChOk a b true := ch_fin u11_2 (tb_more (tb_more tbF_ok p11_2) q11_2) (by kernel_rfl) (by kernel_rfl) (fun _ => by kernel_rfl) 11 2 (by decide) (fun a b => by kernel_rfl)
noncomputable def d11_6 : AV := .agg [dO, .sl [mk F0 [fa, inl s1], mk F1 [fa, inl s2], mk F2 [fa, inl s3], mk F3 [fa, inl s4], mk F4 [fa, inl s5], mk F5 [fa, inl s6], mk F6 [fa, inl s7], mk F7 [fa, inl s8], mk F8 [fa, inl s9], mk F9 [fa, inl s10], mk F10 [fa, inl s11], mk F11 [fa, slf s6]] .dead]
theorem p11_6 : PEnt Try.prog 22 [d11_6, dS] (ns11) := PEnt.comp (n := 100) prOk cTabs tbF_ok (by kernel_rfl) (by kernel_rfl) (by kernel_rfl)
noncomputable def t11_6 : List Ent := ⟨22, [d11_6, dS], (ns11)⟩ :: tbF
theorem q11_6 : PEnt Try.prog 20 [schV, d11_6] (.int .i64 12) := PEnt.comp (l := t11_6) (n := 100) prOk cTabs (tb_more tbF_ok p11_6) (by kernel_rfl) (by kernel_rfl) (by kernel_rfl)
noncomputable def u11_6 : List Ent := ⟨20, [schV, d11_6], (.int .i64 12)⟩ :: t11_6
theorem ch11_6 : ∀ a b, a % 12 = ((11 : Nat) : Int) → b % (1 + ((11 : Nat) : Int)) = 6 → ChOk a b true := ch_fin u11_6 (tb_more (tb_more tbF_ok p11_6) q11_6) (by kernel_rfl) (by kernel_rfl) (fun _ => by kernel_rfl) 11 6 (by decide) (fun a b => by kernel_rfl)
noncomputable def d11_10 : AV := .agg [dO, .sl [mk F0 [fa, inl s1], mk F1 [fa, inl s2], mk F2 [fa, inl s3], mk F3 [fa, inl s4], mk F4 [fa, inl s5], mk F5 [fa, inl s6], mk F6 [fa, inl s7], mk F7 [fa, inl s8], mk F8 [fa, inl s9], mk F9 [fa, inl s10], mk F10 [fa, inl s11], mk F11 [fa, slf s10]] .dead]
theorem p11_10 : PEnt Try.prog 22 [d11_10, dS] (ns11) := PEnt.comp (n := 100) prOk cTabs tbF_ok (by kernel_rfl) (by kernel_rfl) (by kernel_rfl)
noncomputable def t11_10 : List Ent := ⟨22, [d11_10, dS], (ns11)⟩ :: tbF
theorem q11_10 : PEnt Try.prog 20 [schV, d11_10] (.int .i64 12) := PEnt.comp (l := t11_10) (n := 100) prOk cTabs (tb_more tbF_ok p11_10) (by kernel_rfl) (by kernel_rfl) (by kernel_rfl)
noncomputable def u11_10 : List Ent := ⟨20, [schV, d11_10], (.int .i64 12)⟩ :: t11_10
theorem ch11_10 : ∀ a b, a % 12 = ((11 : Nat) : Int) → b % (1 + ((11 : Nat) : Int)) = 10 → ChOk a b true := ch_fin u11_10 (tb_more (tb_more tbF_ok p11_10) q11_10) (by kernel_rfl) (by kernel_rfl) (fun _ => by kernel_rfl) 11 10 (by decide) (fun a b => by kernel_rfl)
noncomputable def d10_1 : AV := .agg [dO, .sl [mk F0 [fa, inl s1], mk F1 [fa, inl s2], mk F2 [fa, inl s3], mk F3 [fa, inl s4], mk F4 [fa, inl s5], mk F5 [fa, inl s6], mk F6 [fa, inl s7], mk F7 [fa, inl s8], mk F8 [fa, inl s9], mk F9 [fa, inl s10], mk F10 [fa, slf s1]] .dead]
theorem p10_1 : PEnt Try.prog 22 [d10_1, dS] (ns10) := PEnt.comp (n := 100) prOk cTabs tbF_ok (by kernel_rfl) (by kernel_rfl) (by kernel_rfl)
noncomputable def t10_1 : List Ent := ⟨22, [d10_1, dS], (ns10)⟩ :: tbF
theorem q10_1 : PEnt Try.prog 20 [schV, d10_1] (.int .i64 12) := PEnt.comp (l := t10_1) (n := 100) prOk cTabs (tb_more tbF_ok p10_1) (by kernel_rfl) (by kernel_rfl) (by kernel_rfl)
noncomputable def u10_1 : List Ent := ⟨20, [schV, d10_1], (.int .i64 12)⟩ :: t10_1
theorem ch10_1 : ∀ a b, a % 12 = ((10 : Nat) : Int) → b % (1 + ((10 : Nat) : Int)) = 1 → ChOk a b true := ch_fin u10_1 (tb_more (tb_more tbF_ok p10_1) q10_1) (by kernel_rfl) (by kernel_rfl) (fun _ => by kernel_rfl) 10 1 (by decide) (fun a b => by kernel_rfl)
noncomputable def d10_4 : AV := .agg [dO, .sl [mk F0 [fa, inl s1], mk F1 [fa, inl s2], mk F2 [fa, inl s3], mk F3 [fa, inl s4], mk F4 [fa, inl s5], mk F5 [fa, inl s6], mk F6 [fa, inl s7], mk F7 [fa, inl s8], mk F8 [fa, inl s9], mk F9 [fa, inl s10], mk F10 [fa, slf s4]] .dead]
theorem p10_4 : PEnt Try.prog 22 [d10_4, dS] (ns10) := PEnt.comp (n := 100) prOk cTabs tbF_ok (by kernel_rfl) (by kernel_rfl) (by kernel_rfl)
noncomputable def t10_4 : List Ent := ⟨22, [d10_4, dS], (ns10)⟩ :: tbF
theorem q10_4 : PEnt Try.prog 20 [schV, d10_4] (.int .i64 12) := PEnt.comp (l := t10_4) (n := 100) prOk cTabs (tb_more tbF_ok p10_4) (by kernel_rfl) (by kernel_rfl) (by kernel_rfl)
noncomputable def u10_4 : List Ent := ⟨20, [schV, d10_4], (.int .i64 12)⟩ :: t10_4
theorem ch10_4 : ∀ a b, a % 12 = ((10 : Nat) : Int) → b % (1 + ((10 : Nat) : Int)) = 4 → ChOk a b true := ch_fin u10_4 (tb_more (tb_more tbF_ok p10_4) q10_4) (by kernel_rfl) (by kernel_rfl) (fun _ => by kernel_rfl) 10 4 (by decide) (fun a b => by kernel_rfl)
noncomputable def d10_8 : AV := .agg [dO, .sl [mk F0 [fa, inl s1], mk F1 [fa, inl s2], mk F2 [fa, inl s3], mk F3 [fa, inl s4], mk F4 [fa, inl s5], mk F5 [fa, inl s6], mk F6 [fa, inl s7], mk F7 [fa, inl s8], mk F8 [fa, inl s9], mk F9 [fa, inl s10], mk F10 [fa, slf s8]] .dead]
theorem p10_8 : PEnt Try.prog 22 [d10_8, dS] (ns10) := PEnt.comp (n := 100) prOk cTabs tbF_ok (by kernel_rfl) (by kernel_rfl) (by kernel_rfl)
noncomputable def t10_8 : List Ent := ⟨22, [d10_8, dS], (ns10)⟩ :: tbF
theorem q10_8 : PEnt Try.prog 20 [schV, d10_8] (.int .i64 12) := PEnt.comp (l := t10_8) (n := 100) prOk cTabs (tb_more tbF_ok p10_8) (by kernel_rfl) (by kernel_rfl) (by kernel_rfl)
noncomputable def u10_8 : List Ent := ⟨20, [schV, d10_8], (.int .i64 12)⟩ :: t10_8
theorem ch10_8 : ∀ a b, a % 12 = ((10 : Nat) : Int) → b % (1 + ((10 : Nat) : Int)) = 8 → ChOk a b true := ch_fin u10_8 (tb_more (tb_more tbF_ok p10_8) q10_8) (by kernel_rfl) (by kernel_rfl) (fun _ => by kernel_rfl) 10 8 (by decide) (fun a b => by kernel_rfl)
noncomputable def d9_0 : AV := .agg [dO, .sl [mk F0 [fa, inl s1], mk F1 [fa, inl s2], mk F2 [fa, inl s3], mk F3 [fa, inl s4], mk F4 [fa, inl s5], mk F5 [fa, inl s6], mk F6 [fa, inl s7], mk F7 [fa, inl s8], mk F8 [fa, inl s9], mk F9 [fa, slf s0]] .dead]
theorem p9_0 : PEnt Try.prog 22 [d9_0, dS] (ns9) := PEnt.comp (n := 100) prOk cTabs tbF_ok (by kernel_rfl) (by kernel_rfl) (by kernel_rfl)
noncomputable def t9_0 : List Ent := ⟨22, [d9_0, dS], (ns9)⟩ :: tbF
theorem q9_0 : PEnt Try.prog 20 [schV, d9_0] (.int .i64 12) := PEnt.comp (l := t9_0) (n := 100) prOk cTabs (tb_more tbF_ok p9_0) (by kernel_rfl) (by kernel_rfl) (by kernel_rfl)
noncomputable def u9_0 : List Ent := ⟨20, [schV, d9_0], (.int .i64 12)⟩ :: t9_0
theorem ch9_0 : ∀ a b, a % 12 = ((9 : Nat) : Int) → b % (1 + ((9 : Nat) : Int)) = 0 → ChOk a b true := ch_fin u9_0 (tb_more (tb_more tbF_ok p9_0) q9_0) (by kernel_rfl) (by kernel_rfl) (fun _ => by kernel_rfl) 9 0 (by decide) (fun a b => by kernel_rfl)
noncomputable def d9_3 : AV := .agg [dO, .sl [mk F0 [fa, inl s1], mk F1 [fa, inl s2], mk F2 [fa, inl s3], mk F3 [fa, inl s4], mk F4 [fa, inl s5], mk F5 [fa, inl s6], mk F6 [fa, inl s7], mk F7 [fa, inl s8], mk F8 [fa, inl s9], mk F9 [fa, slf s3]] .dead]
theorem p9_3 : PEnt Try.prog 22 [d9_3, dS] (ns9) := PEnt.comp (n := 100) prOk cTabs tbF_ok (by kernel_rfl) (by kernel_rfl) (by kernel_rfl)
noncomputable def t9_3 : List Ent := ⟨22, [d9_3, dS], (ns9)⟩ :: tbF
theorem q9_3 : PEnt Try.prog 20 [schV, d9_3] (.int .i64 12) := PEnt.comp (l := t9_3) (n := 100) prOk cTabs (tb_more tbF_ok p9_3) (by kernel_rfl) (by kernel_rfl) (by kernel_rfl)
noncomputable def u9_3 : List Ent := ⟨20, [schV, d9_3], (.int .i64 12)⟩ :: t9_3
theorem ch9_3 : ∀ a b, a % 12 = ((9 : Nat) : Int) → b % (1 + ((9 : Nat) : Int)) = 3 → ChOk a b true := ch_fin u9_3 (tb_more (tb_more tbF_ok p9_3) q9_3) (by kernel_rfl) (by kernel_rfl) (fun _ => by kernel_rfl) 9 3 (by decide) (fun a b => by kernel_rfl)
noncomputable def d9_7 : AV := .agg [dO, .sl [mk F0 [fa, inl s1], mk F1 [fa, inl s2], mk F2 [fa, inl s3], mk F3 [fa, inl s4], mk F4 [fa, inl s5], mk F5 [fa, inl s6], mk F6 [fa, inl s7], mk F7 [fa, inl s8], mk F8 [fa, inl s9], mk F9 [fa, slf s7]] .dead]
theorem p9_7 : PEnt Try.prog 22 [d9_7, dS] (ns9) := PEnt.comp (n := 100) prOk cTabs tbF_ok (by kernel_rfl) (by kernel_rfl) (by kernel_rfl)
noncomputable def t9_7 : List Ent := ⟨22, [d9_7, dS], (ns9)⟩ :: tbF
theorem q9_7 : PEnt Try.prog 20 [schV, d9_7] (.int .i64 12) := PEnt.comp (l := t9_7) (n := 100) prOk cTabs (tb_more tbF_ok p9_7) (by kernel_rfl) (by kernel_rfl) (by kernel_rfl)
noncomputable def u9_7 : List Ent := ⟨20, [schV, d9_7], (.int .i64 12)⟩ :: t9_7
theorem ch9_7 : ∀ a b, a % 12 = ((9 : Nat) : Int) → b % (1 + ((9 : Nat) : Int)) = 7 → ChOk a b true := ch_fin u9_7 (tb_more (tb_more tbF_ok p9_7) q9_7) (by kernel_rfl) (by kernel_rfl) (fun _ => by kernel_rfl) 9 7 (by decide) (fun a b => by kernel_rfl)
noncomputable def d8_0 : AV := .agg [dO, .sl [mk F0 [fa, inl s1], mk F1 [fa, inl s2], mk F2 [fa, inl s3], mk F3 [fa, inl s4], mk F4 [fa, inl s5], mk F5 [fa, inl s6], mk F6 [fa, inl s7], mk F7 [fa, inl s8], mk F8 [fa, slf s0]] .dead]
theorem p8_0 : PEnt Try.prog 22 [d8_0, dS] (ns8) := PEnt.comp (n := 100) prOk cTabs tbF_ok (by kernel_rfl) (by kernel_rfl) (by kernel_rfl)
noncomputable def t8_0 : List Ent := ⟨22, [d8_0, dS], (ns8)⟩ :: tbF
theorem q8_0 : PEnt Try.prog 20 [schV, d8_0] (.int .i64 12) := PEnt.comp (l := t8_0) (n := 100) prOk cTabs (tb_more tbF_ok p8_0) (by kernel_rfl) (by kernel_rfl) (by kernel_rfl)
noncomputable def u8_0 : List Ent := ⟨20, [schV, d8_0], (.int .i64 12)⟩ :: t8_0
theorem ch8_0 : ∀ a b, a % 12 = ((8 : Nat) : Int) → b % (1 + ((8 : Nat) : Int)) = 0 → ChOk a b true := ch_fin u8_0 (tb_more (tb_more tbF_ok p8_0) q8_0) (by kernel_rfl) (by kernel_rfl) (fun _ => by kernel_rfl) 8 0 (by decide) (fun a b => by kernel_rfl)
noncomputable def d8_4 : AV := .agg [dO, .sl [mk F0 [fa, inl s1], mk F1 [fa, inl s2], mk F2 [fa, inl s3], mk F3 [fa, inl s4], mk F4 [fa, inl s5], mk F5 [fa, inl s6], mk F6 [fa, inl s7], mk F7 [fa, inl s8], mk F8 [fa, slf s4]] .dead]
theorem p8_4 : PEnt Try.prog 22 [d8_4, dS] (ns8) := PEnt.comp (n := 100) prOk cTabs tbF_ok (by kernel_rfl) (by kernel_rfl) (by kernel_rfl)
noncomputable def t8_4 : List Ent := ⟨22, [d8_4, dS], (ns8)⟩ :: tbF
theorem q8_4 : PEnt Try.prog 20 [schV, d8_4] (.int .i64 12) := PEnt.comp (l := t8_4) (n := 100) prOk cTabs (tb_more tbF_ok p8_4) (by kernel_rfl) (by kernel_rfl) (by kernel_rfl)
noncomputable def u8_4 : List Ent := ⟨20, [schV, d8_4], (.int .i64 12)⟩ :: t8_4
theorem ch8_4 : ∀ a b, a % 12 = ((8 : Nat) : Int) → b % (1 + ((8 : Nat) : Int)) = 4 → ChOk a b true := ch_fin u8_4 (tb_more (tb_more tbF_ok p8_4) q8_4) (by kernel_rfl) (by kernel_rfl) (fun _ => by kernel_rfl) 8 4 (by decide) (fun a b => by kernel_rfl)
noncomputable def d8_8 : AV := .agg [dO, .sl [mk F0 [fa, inl s1], mk F1 [fa, inl s2], mk F2 [fa, inl s3], mk F3 [fa, inl s4], mk F4 [fa, inl s5], mk F5 [fa, inl s6], mk F6 [fa, inl s7], mk F7 [fa, inl s8], mk F8 [fa, slf s8]] .dead]
theorem p8_8 : PEnt Try.prog 22 [d8_8, dS] (ns8) := PEnt.comp (n := 100) prOk cTabs tbF_ok (by kernel_rfl) (by kernel_rfl) (by kernel_rfl)
noncomputable def t8_8 : List Ent := ⟨22, [d8_8, dS], (ns8)⟩ :: tbF
theorem q8_8 : PEnt Try.prog 20 [schV, d8_8] (.int .i64 12) := PEnt.comp (l := t8_8) (n := 100) prOk cTabs (tb_more tbF_ok p8_8) (by kernel_rfl) (by kernel_rfl) (by kernel_rfl)
noncomputable def u8_8 : List Ent := ⟨20, [schV, d8_8], (.int .i64 12)⟩ :: t8_8
theorem ch8_8 : ∀ a b, a % 12 = ((8 : Nat) : Int) → b % (1 + ((8 : Nat) : Int)) = 8 → ChOk a b true := ch_fin u8_8 (tb_more (tb_more tbF_ok p8_8) q8_8) (by kernel_rfl) (by kernel_rfl) (fun _ => by kernel_rfl) 8 8 (by decide) (fun a b => by kernel_rfl)
noncomputable def d7_2 : AV := .agg [dO, .sl [mk F0 [fa, inl s1], mk F1 [fa, inl s2], mk F2 [fa, inl s3], mk F3 [fa, inl s4], mk F4 [fa, inl s5], mk F5 [fa, inl s6], mk F6 [fa, inl s7], mk F7 [fa, slf s2]] .dead]
theorem p7_2 : PEnt Try.prog 22 [d7_2, dS] (ns7) := PEnt.comp (n := 100) prOk cTabs tbF_ok (by kernel_rfl) (by kernel_rfl) (by kernel_rfl)
noncomputable def t7_2 : List Ent := ⟨22, [d7_2, dS], (ns7)⟩ :: tbF
theorem q7_2 : PEnt Try.prog 20 [schV, d7_2] (.int .i64 12) := PEnt.comp (l := t7_2) (n := 100) prOk cTabs (tb_more tbF_ok p7_2) (by kernel_rfl) (by kernel_rfl) (by kernel_rfl)
noncomputable def u7_2 : List Ent := ⟨20, [schV, d7_2], (.int .i64 12)⟩ :: t7_2
theorem ch7_2 : ∀ a b, a % 12 = ((7 : Nat) : Int) → b % (1 + ((7 : Nat) : Int)) = 2 → ChOk a b true := ch_fin u7_2 (tb_more (tb_more tbF_ok p7_2) q7_2) (by kernel_rfl) (by kernel_rfl) (fun _ => by kernel_rfl) 7 2 (by decide) (fun a b => by kernel_rfl)
noncomputable def d7_6 : AV := .agg [dO, .sl [mk F0 [fa, inl s1], mk F1 [fa, inl s2], mk F2 [fa, inl s3], mk F3 [fa, inl s4], mk F4 [fa, inl s5], mk F5 [fa, inl s6], mk F6 [fa, inl s7], mk F7 [fa, slf s6]] .dead]
theorem p7_6 : PEnt Try.prog 22 [d7_6, dS] (ns7) := PEnt.comp (n := 100) prOk cTabs tbF_ok (by kernel_rfl) (by kernel_rfl) (by kernel_rfl)
noncomputable def t7_6 : List Ent := ⟨22, [d7_6, dS], (ns7)⟩ :: tbF
theorem q7_6 : PEnt Try.prog 20 [schV, d7_6] (.int .i64 12) := PEnt.comp (l := t7_6) (n := 100) prOk cTabs (tb_more tbF_ok p7_6) (by kernel_rfl) (by kernel_rfl) (by kernel_rfl)
noncomputable def u7_6 : List Ent := ⟨20, [schV, d7_6], (.int .i64 12)⟩ :: t7_6
theorem ch7_6 : ∀ a b, a % 12 = ((7 : Nat) : Int) → b % (1 + ((7 : Nat) : Int)) = 6 → ChOk a b true := ch_fin u7_6 (tb_more (tb_more tbF_ok p7_6) q7_6) (by kernel_rfl) (by kernel_rfl) (fun _ => by kernel_rfl) 7 6 (by decide) (fun a b => by kernel_rfl)
noncomputable def d6_2 : AV := .agg [dO, .sl [mk F0 [fa, inl s1], mk F1 [fa, inl s2], mk F2 [fa, inl s3], mk F3 [fa, inl s4], mk F4 [fa, inl s5], mk F5 [fa, inl s6], mk F6 [fa, slf s2]] .dead]
theorem p6_2 : PEnt Try.prog 22 [d6_2, dS] (ns6) := PEnt.comp (n := 100) prOk cTabs tbF_ok (by kernel_rfl) (by kernel_rfl) (by kernel_rfl)
noncomputable def t6_2 : List Ent := ⟨22, [d6_2, dS], (ns6)⟩ :: tbF
theorem q6_2 : PEnt Try.prog 20 [schV, d6_2] (.int .i64 12) := PEnt.comp (l := t6_2) (n := 100) prOk cTabs (tb_more tbF_ok p6_2) (by kernel_rfl) (by kernel_rfl) (by kernel_rfl)
noncomputable def u6_2 : List Ent := ⟨20, [schV, d6_2], (.int .i64 12)⟩ :: t6_2
theorem ch6_2 : ∀ a b, a % 12 = ((6 : Nat) : Int) → b % (1 + ((6 : Nat) : Int)) = 2 → ChOk a b true := ch_fin u6_2 (tb_more (tb_more tbF_ok p6_2) q6_2) (by kernel_rfl) (by kernel_rfl) (fun _ => by kernel_rfl) 6 2 (by decide) (fun a b => by kernel_rfl)
noncomputable def d6_6 : AV := .agg [dO, .sl [mk F0 [fa, inl s1], mk F1 [fa, inl s2], mk F2 [fa, inl s3], mk F3 [fa, inl s4], mk F4 [fa, inl s5], mk F5 [fa, inl s6], mk F6 [fa, slf s6]] .dead]
theorem p6_6 : PEnt Try.prog 22 [d6_6, dS] (ns6) := PEnt.comp (n := 100) prOk cTabs tbF_ok (by kernel_rfl) (by kernel_rfl) (by kernel_rfl)
noncomputable def t6_6 : List Ent := ⟨22, [d6_6, dS], (ns6)⟩ :: tbF
theorem q6_6 : PEnt Try.prog 20 [schV, d6_6] (.int .i64 12) := PEnt.comp (l := t6_6) (n := 100) prOk cTabs (tb_more tbF_ok p6_6) (by kernel_rfl) (by kernel_rfl) (by kernel_rfl)
noncomputable def u6_6 : List Ent := ⟨20, [schV, d6_6], (.int .i64 12)⟩ :: t6_6
theorem ch6_6 : ∀ a b, a % 12 = ((6 : Nat) : Int) → b % (1 + ((6 : Nat) : Int)) = 6 → ChOk a b true := ch_fin u6_6 (tb_more (tb_more tbF_ok p6_6) q6_6) (by kernel_rfl) (by kernel_rfl) (fun _ => by kernel_rfl) 6 6 (by decide) (fun a b => by kernel_rfl)
noncomputable def d5_3 : AV := .agg [dO, .sl [mk F0 [fa, inl s1], mk F1 [fa, inl s2], mk F2 [fa, inl s3], mk F3 [fa, inl s4], mk F4 [fa, inl s5], mk F5 [fa, slf s3]] .dead]
theorem p5_3 : PEnt Try.prog 22 [d5_3, dS] (ns5) := PEnt.comp (n := 100) prOk cTabs tbF_ok (by kernel_rfl) (by kernel_rfl) (by kernel_rfl)
noncomputable def t5_3 : List Ent := ⟨22, [d5_3, dS], (ns5)⟩ :: tbF
theorem q5_3 : PEnt Try.prog 20 [schV, d5_3] (.int .i64 12) := PEnt.comp (l := t5_3) (n := 100) prOk cTabs (tb_more tbF_ok p5_3) (by kernel_rfl) (by kernel_rfl) (by kernel_rfl)
noncomputable def u5_3 : List Ent := ⟨20, [schV, d5_3], (.int .i64 12)⟩ :: t5_3
theorem ch5_3 : ∀ a b, a % 12 = ((5 : Nat) : Int) → b % (1 + ((5 : Nat) : Int)) = 3 → ChOk a b true := ch_fin u5_3 (tb_more (tb_more tbF_ok p5_3) q5_3) (by kernel_rfl) (by kernel_rfl) (fun _ => by kernel_rfl) 5 3 (by decide) (fun a b => by kernel_rfl)
noncomputable def d4_0 : AV := .agg [dO, .sl [mk F0 [fa, inl s1], mk F1 [fa, inl s2], mk F2 [fa, inl s3], mk F3 [fa, inl s4], mk F4 [fa, slf s0]] .dead]
theorem p4_0 : PEnt Try.prog 22 [d4_0, dS] (ns4) := PEnt.comp (n := 100) prOk cTabs tbF_ok (by kernel_rfl) (by kernel_rfl) (by kernel_rfl)
noncomputable def t4_0 : List Ent := ⟨22, [d4_0, dS], (ns4)⟩ :: tbF
theorem q4_0 : PEnt Try.prog 20 [schV, d4_0] (.int .i64 12) := PEnt.comp (l := t4_0) (n := 100) prOk cTabs (tb_more tbF_ok p4_0) (by kernel_rfl) (by kernel_rfl) (by kernel_rfl)
noncomputable def u4_0 : List Ent := ⟨20, [schV, d4_0], (.int .i64 12)⟩ :: t4_0
theorem ch4_0 : ∀ a b, a % 12 = ((4 : Nat) : Int) → b % (1 + ((4 : Nat) : Int)) = 0 → ChOk a b true := ch_fin u4_0 (tb_more (tb_more tbF_ok p4_0) q4_0) (by kernel_rfl) (by kernel_rfl) (fun _ => by kernel_rfl) 4 0 (by decide) (fun a b => by kernel_rfl)
noncomputable def d4_2 : AV := .agg [dO, .sl [mk F0 [fa, inl s1], mk F1 [fa, inl s2], mk F2 [fa, inl s3], mk F3 [fa, inl s4], mk F4 [fa, slf s2]] .dead]
theorem p4_2 : PEnt Try.prog 22 [d4_2, dS] (ns4) := PEnt.comp (n := 100) prOk cTabs tbF_ok (by kernel_rfl) (by kernel_rfl) (by kernel_rfl)
noncomputable def t4_2 : List Ent := ⟨22, [d4_2, dS], (ns4)⟩ :: tbF
theorem q4_2 : PEnt Try.prog 20 [schV, d4_2] (.int .i64 12) := PEnt.comp (l := t4_2) (n := 100) prOk cTabs (tb_more tbF_ok p4_2) (by kernel_rfl) (by kernel_rfl) (by kernel_rfl)
noncomputable def u4_2 : List Ent := ⟨20, [schV, d4_2], (.int .i64 12)⟩ :: t4_2
theorem ch4_2 : ∀ a b, a % 12 = ((4 : Nat) : Int) → b % (1 + ((4 : Nat) : Int)) = 2 → ChOk a b true := ch_fin u4_2 (tb_more (tb_more tbF_ok p4_2) q4_2) (by kernel_rfl) (by kernel_rfl) (fun _ => by kernel_rfl) 4 2 (by decide) (fun a b => by kernel_rfl)
noncomputable def d3_0 : AV := .agg [dO, .sl [mk F0 [fa, inl s1], mk F1 [fa, inl s2], mk F2 [fa, inl s3], mk F3 [fa, slf s0]] .dead]
theorem p3_0 : PEnt Try.prog 22 [d3_0, dS] (ns3) := PEnt.comp (n := 100) prOk cTabs tbF_ok (by kernel_rfl) (by kernel_rfl) (by kernel_rfl)
noncomputable def t3_0 : List Ent := ⟨22, [d3_0, dS], (ns3)⟩ :: tbF
theorem q3_0 : PEnt Try.prog 20 [schV, d3_0] (.int .i64 12) := PEnt.comp (l := t3_0) (n := 100) prOk cTabs (tb_more tbF_ok p3_0) (by kernel_rfl) (by kernel_rfl) (by kernel_rfl)
noncomputable def u3_0 : List Ent := ⟨20, [schV, d3_0], (.int .i64 12)⟩ :: t3_0
theorem ch3_0 : ∀ a b, a % 12 = ((3 : Nat) : Int) → b % (1 + ((3 : Nat) : Int)) = 0 → ChOk a b true := ch_fin u3_0 (tb_more (tb_more tbF_ok p3_0) q3_0) (by kernel_rfl) (by kernel_rfl) (fun _ => by kernel_rfl) 3 0 (by decide) (fun a b => by kernel_rfl)
noncomputable def d2_n : AV := .agg [dO, .sl [mk F0 [fa, inl s1], mk F1 [fa, inl s2], mk F2 [fa]] .dead]
theorem p2_n : PEnt Try.prog 22 [d2_n, dS] (ns2) := PEnt.comp (n := 100) prOk cTabs tbF_ok (by kernel_rfl) (by kernel_rfl) (by kernel_rfl)
noncomputable def t2_n : List Ent := ⟨22, [d2_n, dS], (ns2)⟩ :: tbF
theorem q2_n : PEnt Try.prog 20 [schV, d2_n] (.int .i64 0) := PEnt.comp (l := t2_n) (n := 100) prOk cTabs (tb_more tbF_ok p2_n) (by kernel_rfl) (by kernel_rfl) (by kernel_rfl)
noncomputable def u2_n : List Ent := ⟨20, [schV, d2_n], (.int .i64 0)⟩ :: t2_n
theorem ch2_n : ∀ a b, a % 12 = ((2 : Nat) : Int) → ChOk a b false := ch_fin0 u2_n (tb_more (tb_more tbF_ok p2_n) q2_n) (by kernel_rfl) (by kernel_rfl) (fun _ => by kernel_rfl) 2 (fun a b => by kernel_rfl)
noncomputable def d2_2 : AV := .agg [dO, .sl [mk F0 [fa, inl s1], mk F1 [fa, inl s2], mk F2 [fa, slf s2]] .dead]
theorem p2_2 : PEnt Try.prog 22 [d2_2, dS] (ns2) := PEnt.comp (n := 100) prOk cTabs tbF_ok (by kernel_rfl) (by kernel_rfl) (by kernel_rfl)
noncomputable def t2_2 : List Ent := ⟨22, [d2_2, dS], (ns2)⟩ :: tbF
theorem q2_2 : PEnt Try.prog 20 [schV, d2_2] (.int .i64 12) := PEnt.comp (l := t2_2) (n := 100) prOk cTabs (tb_more tbF_ok p2_2) (by kernel_rfl) (by kernel_rfl) (by kernel_rfl)
noncomputable def u2_2 : List Ent := ⟨20, [schV, d2_2], (.int .i64 12)⟩ :: t2_2
theorem ch2_2 : ∀ a b, a % 12 = ((2 : Nat) : Int) → b % (1 + ((2 : Nat) : Int)) = 2 → ChOk a b true := ch_fin u2_2 (tb_more (tb_more tbF_ok p2_2) q2_2) (by kernel_rfl) (by kernel_rfl) (fun _ => by kernel_rfl) 2 2 (by decide) (fun a b => by kernel_rfl)
end T
