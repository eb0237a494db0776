import Derived.Test.YtocngckbmjfddaaRbF
set_option linter.all false
set_option linter.unusedVariables false
set_option linter.unusedSimpArgs false
set_option maxRecDepth 100000
namespace T
open Go Go.Aes Go.Proofs

theorem fixN_congr {R : Type} {e : R} {F F' : KT R → KT R} (Q : List AV → Prop)
    (h : ∀ k k' : KT R, (∀ fr H, Q fr → k fr H = k' fr H) → ∀ fr H, Q fr → F k fr H = F' k' fr H) :
    ∀ (n : Nat) (fr : List AV) (H : AH), Q fr → fixN e F n fr H = fixN e F' n fr H
  | 0, _, _, _ => rfl
  | n + 1, fr, H, hq => h _ _ (fun fr H hq => fixN_congr Q h n fr H hq) fr H hq
theorem qLoop_congr {F F' : KT (Option Res) → KT (Option Res)} (Q : List AV → Prop)
    (h : ∀ k k' : KT (Option Res), (∀ fr H, Q fr → k fr H = k' fr H) → ∀ fr H, Q fr → F k fr H = F' k' fr H)
    (fr : List AV) (H : AH) (hq : Q fr) : qLoop F fr H = qLoop F' fr H := fixN_congr Q h big fr H hq

/-- calls of g answer v -/
def ovr (g : Nat) (v : AV) (C : CallF) : CallF := fun f us H => bif f.beq g then some (.val v H) else C f us H

theorem l6_congr (a k : Int) (x : AV) (C : CallF) (h14 : ∀ H, C 14 [.int .i64 a, .int .i64 k] H = some (.val x H)) (k7 : KT (Option Res))
    (x0 x2 x6 x7 x9 x10 x11 x12 x13 x25 x37 x50 x80 x83 x93 : AV) (H : AH) : qLoop (l6_12 C k7) [x0, .int .i64 a, x2, x6, x7, .int .i64 k, x9, x10, x11, x12, x13, x25, x37, x50, x80, x83, x93] H = qLoop (l6_12 (ovr 14 x C) k7) [x0, .int .i64 a, x2, x6, x7, .int .i64 k, x9, x10, x11, x12, x13, x25, x37, x50, x80, x83, x93] H := by
  refine qLoop_congr (fun fr => ∃ x0 x2 x6 x7 x9 x10 x11 x12 x13 x25 x37 x50 x80 x83 x93, fr = [x0, .int .i64 a, x2, x6, x7, .int .i64 k, x9, x10, x11, x12, x13, x25, x37, x50, x80, x83, x93]) ?_ _ H ⟨_, _, _, _, _, _, _, _, _, _, _, _, _, _, _, rfl⟩
  rintro q q' hq fr H ⟨x0, x2, x6, x7, x9, x10, x11, x12, x13, x25, x37, x50, x80, x83, x93, rfl⟩
  have hk : ∀ x0 x2 x6 x7 x9 x10 x11 x12 x13 x25 x37 x50 x80 x83 x93 H, q [x0, .int .i64 a, x2, x6, x7, .int .i64 k, x9, x10, x11, x12, x13, x25, x37, x50, x80, x83, x93] H = q' [x0, .int .i64 a, x2, x6, x7, .int .i64 k, x9, x10, x11, x12, x13, x25, x37, x50, x80, x83, x93] H := fun x0 x2 x6 x7 x9 x10 x11 x12 x13 x25 x37 x50 x80 x83 x93 H => hq _ H ⟨_, _, _, _, _, _, _, _, _, _, _, _, _, _, _, rfl⟩
  have h1 : ∀ us H, ovr 14 x C 14 us H = some (.val x H) := fun _ _ => rfl
  have h2 : ∀ us H, ovr 14 x C 17 us H = C 17 us H := fun _ _ => rfl
  simp -implicitDefEqProofs only [l6_12, r6_5, r6_6, r6_7, r6_8, r6_9, r6_10, r6_11, r6_12, opn_z, opn_s, sel_z, sel_s, qCd_eq, qIf_true, qIf_false, qFn_eq, qBl_eq, qO_some, qRes_val, qHp_some, qPick_true, qPick_false, qG_tt, qG_ff, qG_tf, qG_ft, cellsK_some, qLd_ptr, qLd_vptr, qLdA_ptr, qLdA_vptr, qFa_ptr, qFa_vptr, qNc_ptr, qNc_vptr, qNc_fn, qNot_bool, qExt_tup, qCallV_fn, qLss_int, qLeq_int, qGtr_int, qGeq_int, qEql_int, qNeq_int, qAdd_int, qSub_int, qMul_int, qConvI_int, qLenL_sl, qLenL_hsl, qLenS_str, foldO, min2_int, max2_int, qSame_refl, Nat.zero_add, List.getElem?_cons_zero, List.getElem?_cons_succ, List.nil_append, List.cons_append, List.append_nil, one_bool, one_int, one_str, one_nilp, one_ptr, one_sl, one_hsl, one_map, one_fn, List.length_cons, List.length_nil, List.set_cons_zero, List.set_cons_succ, Nat.reduceLT, Nat.reduceAdd, h14, h1, h2, hk]

/-- one thing more, in a heap to compute with -/
def pTc (H : AH) (o : AO) : AH :=
  match H with
  | .tr h nx => .tr (h.put (some o) 40 nx) (nx + 1)
  | H => H
noncomputable def cH1 : AH := (pTc HT (.cells z24)).set 0 (some (.cells schV.cells))

/-- what is left to be worked out of FragsChains -/
noncomputable def chK (C : CallF) : KT (Option Res) := r6_13 C (r6_14 (qCd (sel 14) (fun _ => (r6_15 (fun fr H => some (Res.val (sel 3 fr) H)))) (fun k6 => k6) (r6_16 (qLoop (l6_5 C (r6_21 C (fun fr H => some (Res.val (sel 3 fr) H))) (fun fr H => some (Res.val (sel 3 fr) H)))))))
noncomputable def chR (C D : CallF) (a b : Int) (bo : Bool) (x : Nat) : Option Res :=
  r6_3 (r6_4 (qLoop (l6_12 C (chK D)))) [.int .i64 a, .int .i64 b, .bool bo, .bool false, .ptr 0 0, .int .i64 (IntKind.i64.wrap (1 + (x : Int))), Aes.undef, Aes.undef, Aes.undef, Aes.undef, Aes.undef, Aes.undef, Aes.undef, Aes.undef, Aes.undef, Aes.undef, Aes.undef] cH1

theorem ch_red (l : List Ent) (hl : (l.all fun e => !(14 : Nat).beq e.g) = true) (e13 : CE l 100 13 [.int .i64 1] HT = some (.val schV HT))
    (h1 : ∀ us : List AV, CE l 101 6 us HT = c6 (CE l 100) us HT (fun v H => some (.val v H)))
    (a b : Int) (bo : Bool) (x : Nat) (hx : a % 12 = (x : Int)) :
    CE l 101 6 [.int .i64 a, .int .i64 b, .bool bo] HT = chR (CE l 100) (CE l 100) a b bo x := by
  rw [h1]
  have hp := fun (H : AH) => ce_place (l := l) hl 99 a 12 (by decide) (by decide) H
  rw [hx] at hp
  have n1 : ∀ k : AV → AH → Option Res, qNew (.cells z24) .ptr HT k = k (.ptr 0 0) (pTc HT (.cells z24)) := fun k => by kernel_rfl
  have s1 : ∀ k : AV → AH → Option Res, qSt 3 (.ptr 0 0) schV (pTc HT (.cells z24)) k = k undef cH1 := fun k => by kernel_rfl
  simp -implicitDefEqProofs only [c6, r6_0, r6_1, r6_2, opn_z, opn_s, sel_z, sel_s, qCd_eq, qIf_true, qIf_false, qFn_eq, qBl_eq, qO_some, qRes_val, qHp_some, qPick_true, qPick_false, qG_tt, qG_ff, qG_tf, qG_ft, cellsK_some, qLd_ptr, qLd_vptr, qLdA_ptr, qLdA_vptr, qFa_ptr, qFa_vptr, qNc_ptr, qNc_vptr, qNc_fn, qNot_bool, qExt_tup, qCallV_fn, qLss_int, qLeq_int, qGtr_int, qGeq_int, qEql_int, qNeq_int, qAdd_int, qSub_int, qMul_int, qConvI_int, qLenL_sl, qLenL_hsl, qLenS_str, foldO, min2_int, max2_int, qSame_refl, Nat.zero_add, List.getElem?_cons_zero, List.getElem?_cons_succ, List.nil_append, List.cons_append, List.append_nil, one_bool, one_int, one_str, one_nilp, one_ptr, one_sl, one_hsl, one_map, one_fn, List.length_cons, List.length_nil, List.set_cons_zero, List.set_cons_succ, Nat.reduceLT, Nat.reduceAdd, e13, n1, s1, hp]
  rfl

theorem ch_loop (l : List Ent) (hl : (l.all fun e => !(14 : Nat).beq e.g) = true) (a b : Int) (bo : Bool) (x : Nat) (y : Int) (hx : x < 12) (hy : b % (1 + (x : Int)) = y) :
    chR (CE l 100) (CE l 100) a b bo x = chR (ovr 14 (.int .i64 y) (CE l 100)) (CE l 100) a b bo x := by
  have hw : IntKind.i64.wrap (1 + (x : Int)) = 1 + (x : Int) := IntWalk.i64_in _ (by omega)
  have hp := fun (H : AH) => ce_place (l := l) hl 99 b (1 + (x : Int)) (by omega) (by omega) H
  rw [hy] at hp
  have hl := l6_congr b (1 + (x : Int)) (.int .i64 y) (CE l 100) hp (chK (CE l 100))
  unfold chR
  rw [hw]
  simp -implicitDefEqProofs only [r6_3, r6_4, opn_z, opn_s, sel_z, sel_s, qCd_eq, qIf_true, qIf_false, qFn_eq, qBl_eq, qO_some, qRes_val, qHp_some, qPick_true, qPick_false, qG_tt, qG_ff, qG_tf, qG_ft, cellsK_some, qLd_ptr, qLd_vptr, qLdA_ptr, qLdA_vptr, qFa_ptr, qFa_vptr, qNc_ptr, qNc_vptr, qNc_fn, qNot_bool, qExt_tup, qCallV_fn, qLss_int, qLeq_int, qGtr_int, qGeq_int, qEql_int, qNeq_int, qAdd_int, qSub_int, qMul_int, qConvI_int, qLenL_sl, qLenL_hsl, qLenS_str, foldO, min2_int, max2_int, qSame_refl, Nat.zero_add, List.getElem?_cons_zero, List.getElem?_cons_succ, List.nil_append, List.cons_append, List.append_nil, one_bool, one_int, one_str, one_nilp, one_ptr, one_sl, one_hsl, one_map, one_fn, List.length_cons, List.length_nil, List.set_cons_zero, List.set_cons_succ, Nat.reduceLT, Nat.reduceAdd, hl]

/-- a table with one call more -/
theorem tb_more {l : List Ent} (hl : ∀ e ∈ l, PEnt Try.prog e.g e.as e.v) {g : Nat} {us : List AV} {v : AV} (h : PEnt Try.prog g us v) :
    ∀ e ∈ (⟨g, us, v⟩ :: l : List Ent), PEnt Try.prog e.g e.as e.v := by
  intro e he
  rcases List.mem_cons.1 he with rfl | he
  · exact h
  · exact hl e he

/-- what is to be shown of two numbers and a bool -/
def ChOk (a b : Int) (bo : Bool) : Prop := ∃ l : List Ent, (∀ e ∈ l, PEnt Try.prog e.g e.as e.v) ∧ ∃ H', CE l 101 6 [.int .i64 a, .int .i64 b, .bool bo] HT = some (.val (.bool true) H')

theorem ch_fin (l : List Ent) (hok : ∀ e ∈ l, PEnt Try.prog e.g e.as e.v) (hl : (l.all fun e => !(14 : Nat).beq e.g) = true) (e13 : CE l 100 13 [.int .i64 1] HT = some (.val schV HT))
    (h1 : ∀ us : List AV, CE l 101 6 us HT = c6 (CE l 100) us HT (fun v H => some (.val v H)))
    (x : Nat) (y : Int) (hx : x < 12) (h : ∀ a b, okT (chR (ovr 14 (.int .i64 y) (CE l 100)) (CE l 100) a b true x) = true) (a b : Int) (ha : a % 12 = (x : Int)) (hb : b % (1 + (x : Int)) = y) : ChOk a b true := by
  refine ⟨l, hok, okT_inv ?_⟩
  rw [ch_red l hl e13 h1 a b true x ha, ch_loop l hl a b true x y hx hb]
  exact h a b
theorem ch_fin0 (l : List Ent) (hok : ∀ e ∈ l, PEnt Try.prog e.g e.as e.v) (hl : (l.all fun e => !(14 : Nat).beq e.g) = true) (e13 : CE l 100 13 [.int .i64 1] HT = some (.val schV HT))
    (h1 : ∀ us : List AV, CE l 101 6 us HT = c6 (CE l 100) us HT (fun v H => some (.val v H)))
    (x : Nat) (h : ∀ a b, okT (chR (CE l 100) (CE l 100) a b false x) = true) (a b : Int) (ha : a % 12 = (x : Int)) : ChOk a b false := by
  refine ⟨l, hok, okT_inv ?_⟩
  rw [ch_red l hl e13 h1 a b false x ha]
  exact h a b
/-! ### the documents -/
noncomputable def dN : AV := .sl [] .nil
noncomputable def spr (n : AV) : List AV := [.int .i64 2, .str [], n, .str [], dN, dN, dN]
noncomputable def mk (n : AV) (l : List (List AV)) : List AV := [n, .str [81, 117, 101, 114, 121], dN, .sl l .dead]
noncomputable def fa : List AV := [.int .i64 1, .str [], .str [97], .str [], dN, dN, dN]
noncomputable def inl (s : List AV) : List AV := [.int .i64 3, .str [], .str [], .str [], dN, dN, .sl [s] .dead]
noncomputable def slf (s : List AV) : List AV := [.int .i64 1, .str [], .str [115, 101, 108, 102], .str [], dN, dN, .sl [s] .dead]
noncomputable def F0 : AV := .str [70, 48]
noncomputable def s0 : List AV := spr F0
noncomputable def F1 : AV := .str [70, 49]
noncomputable def s1 : List AV := spr F1
noncomputable def F2 : AV := .str [70, 50]
noncomputable def s2 : List AV := spr F2
noncomputable def F3 : AV := .str [70, 51]
noncomputable def s3 : List AV := spr F3
noncomputable def F4 : AV := .str [70, 52]
noncomputable def s4 : List AV := spr F4
noncomputable def F5 : AV := .str [70, 53]
noncomputable def s5 : List AV := spr F5
noncomputable def F6 : AV := .str [70, 54]
noncomputable def s6 : List AV := spr F6
noncomputable def F7 : AV := .str [70, 55]
noncomputable def s7 : List AV := spr F7
noncomputable def F8 : AV := .str [70, 56]
noncomputable def s8 : List AV := spr F8
noncomputable def F9 : AV := .str [70, 57]
noncomputable def s9 : List AV := spr F9
noncomputable def F10 : AV := .str [70, 49, 48]
noncomputable def s10 : List AV := spr F10
noncomputable def F11 : AV := .str [70, 49, 49]
noncomputable def s11 : List AV := spr F11
noncomputable def ns0 : AV := .sl [[F0]] .dead
noncomputable def ns1 : AV := .sl [[F0], [F1]] .dead
noncomputable def ns2 : AV := .sl [[F0], [F1], [F2]] .dead
noncomputable def ns3 : AV := .sl [[F0], [F1], [F2], [F3]] .dead
noncomputable def ns4 : AV := .sl [[F0], [F1], [F2], [F3], [F4]] .dead
noncomputable def ns5 : AV := .sl [[F0], [F1], [F2], [F3], [F4], [F5]] .dead
noncomputable def ns6 : AV := .sl [[F0], [F1], [F2], [F3], [F4], [F5], [F6]] .dead
noncomputable def ns7 : AV := .sl [[F0], [F1], [F2], [F3], [F4], [F5], [F6], [F7]] .dead
noncomputable def ns8 : AV := .sl [[F0], [F1], [F2], [F3], [F4], [F5], [F6], [F7], [F8]] .dead
noncomputable def ns9 : AV := .sl [[F0], [F1], [F2], [F3], [F4], [F5], [F6], [F7], [F8], [F9]] .dead
noncomputable def ns10 : AV := .sl [[F0], [F1], [F2], [F3], [F4], [F5], [F6], [F7], [F8], [F9], [F10]] .dead
noncomputable def ns11 : AV := .sl [[F0], [F1], [F2], [F3], [F4], [F5], [F6], [F7], [F8], [F9], [F10], [F11]] .dead
noncomputable def dS : AV := .sl [s0] .dead
noncomputable def dO : AV := .sl [[.bool false, .str [], dN, dN, dS]] .dead
end T
