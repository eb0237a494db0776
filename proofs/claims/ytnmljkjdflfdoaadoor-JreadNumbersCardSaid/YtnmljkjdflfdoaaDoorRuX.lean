import Derived.Test.YtnmljkjdflfdoaaDoorRdBX
import Derived.Test.YtnmljkjdflfdoaaDoorOrD
import Derived.Laws.DeepBits32
set_option linter.all false
set_option linter.unusedVariables false
set_option linter.unusedSimpArgs false
set_option maxRecDepth 10000
namespace T
open Go Go.Aes Go.Proofs

/-! ### with strings.ToLower asked first, too -/
noncomputable abbrev EP3 : CallF := evO X OD2 OF3 PS
theorem up {g : Nat} {al : List AV} {H : AH} {r : Res} (h : EP g al H = some r) : EP3 g al H = some r := evO_sub OF2_3 _ _ _ _ h
theorem ep96 (s : Str) (hl : s.length < 35184372088832) (H : AH) : EP3 87 [.str s] H = some (.val (.str (Lib.toLowerD s)) H) := by
  refine evO_O rfl ?_
  show oTL [.str s] H = _
  unfold oTL
  have : s.length.blt 35184372088832 = true := by rw [Nat.blt_eq]; exact hl
  simp only [this, cond_true]

/-! ### digits of sixteen -/
def hexV (c : UInt8) : Option Nat :=
  if 48 ≤ c.toNat ∧ c.toNat ≤ 57 then some (c.toNat - 48)
  else if 97 ≤ c.toNat ∧ c.toNat ≤ 102 then some (c.toNat - 87)
  else if 65 ≤ c.toNat ∧ c.toNat ≤ 70 then some (c.toNat - 55) else none
theorem hexV_lt {c : UInt8} {v : Nat} (h : hexV c = some v) : v < 16 := by
  unfold hexV at h
  split at h
  · injection h; omega
  · split at h
    · injection h; omega
    · split at h
      · injection h; omega
      · cases h
theorem hexV_asc {c : UInt8} {v : Nat} (h : hexV c = some v) : c.toNat < 128 := by
  unfold hexV at h
  split at h
  · omega
  · split at h
    · omega
    · split at h
      · omega
      · cases h
theorem hexs_asc : Asc hexs := by
  intro c hc
  have : hexs.all (fun c => decide (c.toNat < 128)) = true := by decide
  exact of_decide_eq_true (List.all_eq_true.1 this c hc)
theorem hex_ix' : ∀ x : Fin 128, Lib.indexByte hexs (Lib.lowerB (UInt8.ofNat x.val)) = (match hexV (UInt8.ofNat x.val) with
  | some v => (v : Int)
  | none => -1) := by decide +kernel
theorem low_asc' : ∀ x : Fin 128, (Lib.lowerB (UInt8.ofNat x.val)).toNat < 128 := by decide +kernel
theorem low_asc {c : UInt8} (h : c.toNat < 128) : (Lib.lowerB c).toNat < 128 := by
  have := low_asc' ⟨c.toNat, h⟩
  simpa using this
theorem hex_ix {c : UInt8} (h : c.toNat < 128) : ixr hexs (Lib.lowerB c).toNat = (match hexV c with
  | some v => (v : Int)
  | none => -1) := by
  have h1 := hex_ix' ⟨c.toNat, h⟩
  unfold ixr
  rw [if_pos (low_asc h)]
  simpa using h1

def hexN : Str → Nat → Option Nat
  | [], v => some v
  | c :: l, v => match hexV c with
    | some x => hexN l (16 * v + x)
    | none => none
/-- the number that four digits make -/
def fourF (s : Str) : Option Nat := if s.length < 4 then none else hexN (s.take 4) 0
def fourZ (s : Str) : Int := match fourF s with
  | some v => (v : Int)
  | none => -1
theorem hexN_bad : ∀ {l : Str} {v : Nat}, (∃ c ∈ l, hexV c = none) → hexN l v = none
  | [], v, ⟨c, h, _⟩ => by cases h
  | d :: l, v, ⟨c, h, hc⟩ => by
    simp only [hexN]
    rcases List.mem_cons.1 h with rfl | h
    · rw [hc]
    · cases hexV d with
      | none => rfl
      | some x => exact hexN_bad ⟨c, h, hc⟩
theorem hexN_lt : ∀ {l : Str} {v w : Nat}, hexN l v = some w → w < 16 ^ l.length * (v + 1)
  | [], v, w, h => by simp only [hexN, Option.some.injEq] at h; subst h; simp
  | c :: l, v, w, h => by
    simp only [hexN] at h
    cases hc : hexV c with
    | none => rw [hc] at h; cases h
    | some x =>
      rw [hc] at h
      have h1 := hexN_lt h
      have h2 := hexV_lt hc
      rw [List.length_cons, Nat.pow_succ, Nat.mul_assoc]
      exact Nat.lt_of_lt_of_le h1 (Nat.mul_le_mul_left _ (by omega))
theorem fourF_lt {s : Str} {v : Nat} (h : fourF s = some v) : v < 65536 ∧ 4 ≤ s.length := by
  unfold fourF at h
  split at h
  · cases h
  · rename_i hl
    have := hexN_lt h
    rw [List.length_take, Nat.min_eq_left (by omega)] at this
    omega

/-! ### what is not below 128 is no digit, turned small or not -/
theorem lowRows : Lib.caseT.all (fun (x : Lib.CaseRow) => decide (x.2.1 < 128) || (decide (128 ≤ x.1) && (decide (x.delta 1 > 1114111) || decide (102 < (x.1 : Int) + x.delta 1)))) = true := by decide +kernel
theorem low_hi (r : Int) (h : 128 ≤ r) : 102 < Lib.toLowerU r := by
  unfold Lib.toLowerU
  rw [if_neg (by omega)]
  unfold Lib.toR Lib.lookupGo
  cases hi : Lib.lookupIdx Lib.caseA r (Lib.caseA.size + 1) 0 Lib.caseA.size with
  | none => simp only [Option.map_none]; omega
  | some i =>
    simp only [Option.map_some]
    obtain ⟨hil, hlo, hhi⟩ := Lib.lookupIdx_some Lib.caseA r _ _ _ i hi
    have hm : Lib.caseA.getD i (0, 0, 0, 0, 0) ∈ Lib.caseT := by
      unfold Lib.caseA at hil ⊢
      simp only [List.size_toArray] at hil
      simp [Array.getD, hil]
    have hr := List.all_eq_true.1 lowRows _ hm
    generalize Lib.caseA.getD i (0, 0, 0, 0, 0) = x at *
    simp only [Bool.or_eq_true, Bool.and_eq_true, decide_eq_true_eq] at hr
    unfold Lib.convertR
    rcases hr with h1 | ⟨h1, h2 | h2⟩
    · omega
    · rw [if_pos h2]; omega
    · split <;> omega

theorem enc_hi_byte (r : Int) (h : 102 < r) : ∃ c ∈ Lib.encodeRune r, 102 < c.toNat := by
  have key : ∀ z, Lib.encodeRuneZ r = z → (∃ x ∈ z, 102 < x ∧ x < 256) → ∃ c ∈ Lib.encodeRune r, 102 < c.toNat := by
    rintro z hz ⟨x, hx, h1, h2⟩
    unfold Lib.encodeRune
    rw [hz]
    exact ⟨_, List.mem_map.2 ⟨x, hx, rfl⟩, by simp; omega⟩
  by_cases h1 : r ≤ 127
  · exact key _ (Lib.encodeRuneZ_one (by omega) h1) ⟨r, by simp, by omega, by omega⟩
  by_cases h2 : r ≤ 2047
  · exact key _ (Lib.encodeRuneZ_two (by omega) h2) ⟨128 + r % 64, by simp, by omega, by omega⟩
  by_cases h3 : (2048 ≤ r ∧ r < 55296) ∨ (57343 < r ∧ r ≤ 65535)
  · exact key _ (Lib.encodeRuneZ_three h3) ⟨128 + r % 64, by simp, by omega, by omega⟩
  by_cases h4 : 65536 ≤ r ∧ r ≤ 1114111
  · exact key _ (Lib.encodeRuneZ_four h4.1 h4.2) ⟨128 + r % 64, by simp, by omega, by omega⟩
  · exact key _ (Lib.encodeRuneZ_bad (by omega)) ⟨239, by simp, by omega, by omega⟩
theorem dec_ge {b : UInt8} {r : Str} (h : 128 ≤ b.toNat) : 128 ≤ (Lib.decodeL (b :: r)).1 := by
  by_cases hv : (Lib.decodeL (b :: r)).1 = 65533 ∧ (Lib.decodeL (b :: r)).2 = 1
  · omega
  · exact (dec_hi h hv).1
theorem map_bad : ∀ (n : Nat) (l : Str), l.length ≤ n → (∃ c ∈ l, 128 ≤ c.toNat) → ∃ c ∈ Lib.mapGoD Lib.toLowerU n l, 102 < c.toNat
  | 0, l, hl, ⟨c, hc, _⟩ => by
    obtain rfl : l = [] := List.eq_nil_of_length_eq_zero (by omega)
    cases hc
  | n + 1, [], hl, ⟨c, hc, _⟩ => by cases hc
  | n + 1, b :: r, hl, ⟨c, hc, h⟩ => by
    simp only [Lib.mapGoD, if_neg (List.cons_ne_nil b r)]
    rcases Nat.lt_or_ge b.toNat 128 with hb | hb
    · rw [dec_ascii b r hb]
      have hr : ∃ c ∈ r, 128 ≤ c.toNat := by
        rcases List.mem_cons.1 hc with rfl | hc
        · omega
        · exact ⟨c, hc, h⟩
      obtain ⟨d, hd, h2⟩ := map_bad n r (by simpa using hl) hr
      exact ⟨d, List.mem_append_right _ hd, h2⟩
    · have h1 := dec_ge (r := r) hb
      have h2 := low_hi ((Lib.decodeL (b :: r)).1 : Int) (by omega)
      rw [if_pos (by omega)]
      obtain ⟨d, hd, h3⟩ := enc_hi_byte _ h2
      exact ⟨d, List.mem_append_left _ hd, h3⟩
theorem ixr_hi {r : Nat} (h : 102 < r) : ixr hexs r = -1 := by
  have key : ∀ x : Fin 128, 102 < x.val → Lib.indexByte hexs (UInt8.ofNat x.val) = -1 := by decide +kernel
  unfold ixr
  split
  · exact key ⟨r, by omega⟩ h
  · rfl

theorem shl_i32 (z : Int) : binop X .shl 21 (.int .i32 z) (.int .u64 4) = some (.int .i32 (IntKind.i32.wrap (z * 16))) := by
  show ofSem (Op.shift .shl .i32 z .u64 4) = _
  rw [shift_shl .i32 .u64 z 4 (by decide) (by decide)]
  rfl
theorem or_i32 (a b : Int) : binop X .or 21 (.int .i32 a) (.int .i32 b) = some (.int .i32 (bits .or .i32 a b)) := rfl
theorem wrap32 {n : Int} (h0 : -2147483648 ≤ n) (h1 : n < 2147483648) : IntKind.i32.wrap n = n := by
  simp [IntKind.wrap, IntKind.bits, IntKind.signed]
  split <;> omega
theorem or_low {v x : Nat} (hx : x < 16) : v * 16 ||| x = 16 * v + x := by
  have := Nat.shiftLeft_add_eq_or_of_lt (b := x) (i := 4) (by omega) v
  rw [Nat.shiftLeft_eq, show (2 : Nat) ^ 4 = 16 from rfl] at this
  omega
theorem hex_step {v x : Nat} (hv : v < 65536) (hx : x < 16) : bits .or .i32 (IntKind.i32.wrap ((v : Int) * 16)) (IntKind.i32.wrap (x : Int)) = ((16 * v + x : Nat) : Int) := by
  rw [wrap32 (by omega) (by omega), wrap32 (by omega) (by omega)]
  show IntKind.i32.wrap ((BitVec.ofInt 32 ((v : Int) * 16) ||| BitVec.ofInt 32 (x : Int)).toNat : Int) = _
  rw [show ((v : Int) * 16) = ((v * 16 : Nat) : Int) by omega, BitVec.toNat_or, ofInt_u32 (v * 16) (by omega), ofInt_u32 x (by omega), or_low hx]
  exact wrap32 (by omega) (by omega)

set_option maxHeartbeats 1000000 in
theorem four_walk (s : Str) : c79 EP3 [.str s] H0 (fun v _ => v.kill = .int .i32 (fourZ s)) := by
  by_cases h4 : s.length < 4
  · have h4' : (s.length : Int) < 4 := by omega
    simp -implicitDefEqProofs only [c79, r79_0, r79_1, r79_2, opn_z, opn_s, sel_z, sel_s, qCd_eq, qIf_true, qIf_false, qFn_eq, qBl_eq, qO_some, qRes_val, qHp_some, qPick_true, qPick_false, qG_tt, qG_ff, qG_tf, qG_ft, cellsK_some, qLd_ptr, qLd_vptr, qLdA_ptr, qLdA_vptr, qFa_ptr, qFa_vptr, qNc_ptr, qNc_vptr, qNc_fn, qNot_bool, qExt_tup, qCallV_fn, qLss_int, qLeq_int, qGtr_int, qGeq_int, qEql_int, qNeq_int, qAdd_int, qSub_int, qMul_int, qConvI_int, qLenL_sl, qLenL_hsl, qLenS_str, foldO, min2_int, max2_int, qSame_refl, Nat.zero_add, List.getElem?_cons_zero, List.getElem?_cons_succ, List.nil_append, List.cons_append, List.append_nil, one_bool, one_int, one_str, one_nilp, one_ptr, one_sl, one_hsl, one_map, one_fn, List.length_cons, List.length_nil, List.set_cons_zero, List.set_cons_succ, Nat.reduceLT, Nat.reduceAdd, qG_un, qResN_val, qCallVN_fn, AV.kill, AV.kills, Tk.kill, h4', decide_true]
    simp [fourZ, fourF, h4]
  have h4' : ¬ (s.length : Int) < 4 := by omega
  have sl : ∀ k : AV → Prop, qSlc Tryd.t9.desc 0 (.str s) none (some (.int .i64 4)) none k = k (.str (s.take 4)) := fun k => slcS_hi s 4 (by omega) k
  have ht4 : (s.take 4).length = 4 := by rw [List.length_take]; omega
  have e87 := fun H => ep96 (s.take 4) (by omega) H
  have rg := fun k => range_i (H := H0) (Lib.toLowerD (s.take 4)) k
  have hgi := get_push_at (H := H0) (.iter (Lib.toLowerD (s.take 4)) 0)
  have hif : IsFn (H0.push (.iter (Lib.toLowerD (s.take 4)) 0)) := inferInstance
  have hst : (∃ (x : Str) (v : Nat), (∀ c ∈ x, c.toNat < 128) ∧ Lib.toLowerD (s.take 4) = x.map Lib.lowerB ∧ (0 : Int) = (v : Int) ∧ v < 16 ^ (4 - x.length) ∧ x.length ≤ 4 ∧ fourF s = hexN x v) ∨ (fourF s = none ∧ ∃ c ∈ Lib.toLowerD (s.take 4), 102 < c.toNat) := by
    have hF : fourF s = hexN (s.take 4) 0 := if_neg h4
    by_cases ha : ∀ c ∈ s.take 4, c.toNat < 128
    · exact .inl ⟨s.take 4, 0, ha, Lib.toLowerD_ascii _ ha, rfl, Nat.pow_pos (by omega), by omega, hF⟩
    · obtain ⟨c, hc, h8⟩ : ∃ c ∈ s.take 4, 128 ≤ c.toNat := by
        apply Classical.byContradiction
        intro hn
        exact ha fun c hc => Classical.byContradiction fun h => hn ⟨c, hc, by omega⟩
      refine .inr ⟨hF.trans (hexN_bad ⟨c, hc, ?_⟩), map_bad _ _ (Nat.le_refl _) ⟨c, hc, h8⟩⟩
      cases hx : hexV c with
      | none => rfl
      | some v => have := hexV_asc hx; omega
  simp -implicitDefEqProofs only [c79, r79_0, r79_1, r79_3, r79_4, opn_z, opn_s, sel_z, sel_s, qCd_eq, qIf_true, qIf_false, qFn_eq, qBl_eq, qO_some, qRes_val, qHp_some, qPick_true, qPick_false, qG_tt, qG_ff, qG_tf, qG_ft, cellsK_some, qLd_ptr, qLd_vptr, qLdA_ptr, qLdA_vptr, qFa_ptr, qFa_vptr, qNc_ptr, qNc_vptr, qNc_fn, qNot_bool, qExt_tup, qCallV_fn, qLss_int, qLeq_int, qGtr_int, qGeq_int, qEql_int, qNeq_int, qAdd_int, qSub_int, qMul_int, qConvI_int, qLenL_sl, qLenL_hsl, qLenS_str, foldO, min2_int, max2_int, qSame_refl, Nat.zero_add, List.getElem?_cons_zero, List.getElem?_cons_succ, List.nil_append, List.cons_append, List.append_nil, one_bool, one_int, one_str, one_nilp, one_ptr, one_sl, one_hsl, one_map, one_fn, List.length_cons, List.length_nil, List.set_cons_zero, List.set_cons_succ, Nat.reduceLT, Nat.reduceAdd, qG_un, qResN_val, qCallVN_fn, h4', decide_false, sl, e87, rg]
  generalize Lib.toLowerD (s.take 4) = t at *
  generalize H0.nx = i at *
  generalize H0.push (.iter t 0) = H3 at *
  refine loop_inv (fun m fr H' => ∃ (l : Str) (p : Nat) (z : Int) (x2 x5 x6 x9 x14 x15 x20 : AV), m = l.length ∧ fr = [.str s, x2, .int .i32 z, x5, x6, x9, .it i, x14, x15, x20] ∧ IsFn H' ∧ H'.get i = some (.iter l p) ∧
      ((∃ (x : Str) (v : Nat), (∀ c ∈ x, c.toNat < 128) ∧ l = x.map Lib.lowerB ∧ z = (v : Int) ∧ v < 16 ^ (4 - x.length) ∧ x.length ≤ 4 ∧ fourF s = hexN x v) ∨ (fourF s = none ∧ ∃ c ∈ l, 102 < c.toNat))) ?_ (m := t.length) ?_
  case refine_2 => exact ⟨t, 0, 0, _, _, _, _, _, _, _, rfl, rfl, hif, hgi, hst⟩
  rintro m fr H' k ⟨l, p, z, x2, x5, x6, x9, x14, x15, x20, rfl, rfl, hf, hg, hI⟩ hk
  cases l with
  | nil =>
    have nx := fun k => next_nil hg k
    simp -implicitDefEqProofs only [l79_5, r79_5, r79_11, opn_z, opn_s, sel_z, sel_s, qCd_eq, qIf_true, qIf_false, qFn_eq, qBl_eq, qO_some, qRes_val, qHp_some, qPick_true, qPick_false, qG_tt, qG_ff, qG_tf, qG_ft, cellsK_some, qLd_ptr, qLd_vptr, qLdA_ptr, qLdA_vptr, qFa_ptr, qFa_vptr, qNc_ptr, qNc_vptr, qNc_fn, qNot_bool, qExt_tup, qCallV_fn, qLss_int, qLeq_int, qGtr_int, qGeq_int, qEql_int, qNeq_int, qAdd_int, qSub_int, qMul_int, qConvI_int, qLenL_sl, qLenL_hsl, qLenS_str, foldO, min2_int, max2_int, qSame_refl, Nat.zero_add, List.getElem?_cons_zero, List.getElem?_cons_succ, List.nil_append, List.cons_append, List.append_nil, one_bool, one_int, one_str, one_nilp, one_ptr, one_sl, one_hsl, one_map, one_fn, List.length_cons, List.length_nil, List.set_cons_zero, List.set_cons_succ, Nat.reduceLT, Nat.reduceAdd, qG_un, qResN_val, qCallVN_fn, AV.kill, AV.kills, Tk.kill, nx]
    rcases hI with ⟨x, v, _, hx, rfl, _, _, hF⟩ | ⟨_, c, hc, _⟩
    · obtain rfl : x = [] := by simpa using hx.symm
      simp [fourZ, hF, hexN]
    · cases hc
  | cons c l =>
    have nx := fun k => next_cons hg k
    have hlt := lt_i hg
    rcases Nat.lt_or_ge c.toNat 128 with hc | hc
    · rw [dec_ascii c l hc] at nx
      have e83 := fun H => up (ep52 hexs hexs_asc (by decide) c.toNat H)
      have hex : hexs = [48,49,50,51,52,53,54,55,56,57,97,98,99,100,101,102] := rfl
      rw [hex] at e83
      rw [← hex] at e83
      have hge : -1 ≤ ixr hexs c.toNat := by unfold ixr; rw [if_pos hc]; exact (ib_ge _ _).1
      by_cases ha : ixr hexs c.toNat < 0
      · have hno : fourF s = none := by
          rcases hI with ⟨x, v, hx1, hx2, _, _, _, hF⟩ | ⟨h, _⟩
          · cases x with
            | nil => cases hx2
            | cons b x =>
              simp only [List.map_cons, List.cons.injEq] at hx2
              obtain ⟨rfl, _⟩ := hx2
              rw [hex_ix (hx1 b (by simp))] at ha
              rw [hF]
              simp only [hexN]
              cases hb : hexV b with
              | none => rfl
              | some y => rw [hb] at ha; simp only at ha; omega
          · exact h
        unfold hexs at e83 ha
        simp -implicitDefEqProofs only [l79_5, r79_5, r79_6, r79_7, r79_8, r79_9, opn_z, opn_s, sel_z, sel_s, qCd_eq, qIf_true, qIf_false, qFn_eq, qBl_eq, qO_some, qRes_val, qHp_some, qPick_true, qPick_false, qG_tt, qG_ff, qG_tf, qG_ft, cellsK_some, qLd_ptr, qLd_vptr, qLdA_ptr, qLdA_vptr, qFa_ptr, qFa_vptr, qNc_ptr, qNc_vptr, qNc_fn, qNot_bool, qExt_tup, qCallV_fn, qLss_int, qLeq_int, qGtr_int, qGeq_int, qEql_int, qNeq_int, qAdd_int, qSub_int, qMul_int, qConvI_int, qLenL_sl, qLenL_hsl, qLenS_str, foldO, min2_int, max2_int, qSame_refl, Nat.zero_add, List.getElem?_cons_zero, List.getElem?_cons_succ, List.nil_append, List.cons_append, List.append_nil, one_bool, one_int, one_str, one_nilp, one_ptr, one_sl, one_hsl, one_map, one_fn, List.length_cons, List.length_nil, List.set_cons_zero, List.set_cons_succ, Nat.reduceLT, Nat.reduceAdd, qG_un, qResN_val, qCallVN_fn, AV.kill, AV.kills, Tk.kill, nx, e83, ha, decide_true]
        simp [fourZ, hno]
      · have hI' : (∃ (x : Str) (v : Nat), (∀ c ∈ x, c.toNat < 128) ∧ l = x.map Lib.lowerB ∧ bits .or .i32 (IntKind.i32.wrap (z * 16)) (IntKind.i32.wrap (ixr hexs c.toNat)) = (v : Int) ∧ v < 16 ^ (4 - x.length) ∧ x.length ≤ 4 ∧ fourF s = hexN x v) ∨ (fourF s = none ∧ ∃ c ∈ l, 102 < c.toNat) := by
          rcases hI with ⟨x, v, hx1, hx2, hz, hv, hxl, hF⟩ | ⟨h, d, hd, hd2⟩
          · cases x with
            | nil => cases hx2
            | cons b x =>
              simp only [List.map_cons, List.cons.injEq] at hx2
              obtain ⟨rfl, rfl⟩ := hx2
              rw [hex_ix (hx1 b (by simp))] at ha ⊢
              simp only [hexN] at hF
              cases hb : hexV b with
              | none => rw [hb] at ha; simp only at ha; omega
              | some y =>
                have hy := hexV_lt hb
                simp only [hb] at hF ⊢
                simp only [List.length_cons] at hv hxl
                have hp : 16 ^ (4 - (x.length + 1)) ≤ 16 ^ 3 := Nat.pow_le_pow_right (by omega) (by omega)
                refine .inl ⟨x, 16 * v + y, fun c hc => hx1 c (by simp [hc]), rfl, ?_, ?_, by omega, hF⟩
                · rw [hz]; exact hex_step (by omega) hy
                · have : 16 ^ (4 - x.length) = 16 * 16 ^ (4 - (x.length + 1)) := by
                    rw [show 4 - x.length = (4 - (x.length + 1)) + 1 by omega, Nat.pow_succ, Nat.mul_comm]
                  omega
          · refine .inr ⟨h, ?_⟩
            rcases List.mem_cons.1 hd with rfl | hd
            · rw [ixr_hi hd2] at ha; omega
            · exact ⟨d, hd, hd2⟩
        have sh := shl_i32 z
        have orr := or_i32 (IntKind.i32.wrap (z * 16)) (IntKind.i32.wrap (ixr hexs c.toNat))
        unfold hexs at e83 ha hI' orr
        simp -implicitDefEqProofs only [l79_5, r79_5, r79_6, r79_7, r79_8, r79_10, opn_z, opn_s, sel_z, sel_s, qCd_eq, qIf_true, qIf_false, qFn_eq, qBl_eq, qO_some, qRes_val, qHp_some, qPick_true, qPick_false, qG_tt, qG_ff, qG_tf, qG_ft, cellsK_some, qLd_ptr, qLd_vptr, qLdA_ptr, qLdA_vptr, qFa_ptr, qFa_vptr, qNc_ptr, qNc_vptr, qNc_fn, qNot_bool, qExt_tup, qCallV_fn, qLss_int, qLeq_int, qGtr_int, qGeq_int, qEql_int, qNeq_int, qAdd_int, qSub_int, qMul_int, qConvI_int, qLenL_sl, qLenL_hsl, qLenS_str, foldO, min2_int, max2_int, qSame_refl, Nat.zero_add, List.getElem?_cons_zero, List.getElem?_cons_succ, List.nil_append, List.cons_append, List.append_nil, one_bool, one_int, one_str, one_nilp, one_ptr, one_sl, one_hsl, one_map, one_fn, List.length_cons, List.length_nil, List.set_cons_zero, List.set_cons_succ, Nat.reduceLT, Nat.reduceAdd, qG_un, qResN_val, qCallVN_fn, AV.kill, AV.kills, Tk.kill, nx, e83, ha, decide_false, sh, orr]
        refine hk l.length _ _ (by simp) ⟨l, _, _, _, _, _, _, _, _, _, rfl, rfl, inferInstance, by rw [get_set_i hlt, if_pos rfl]; rfl, hI'⟩
    · have hno : fourF s = none := by
        rcases hI with ⟨x, v, hx1, hx2, _, _, _, hF⟩ | ⟨h, _⟩
        · cases x with
          | nil => cases hx2
          | cons b x =>
            simp only [List.map_cons, List.cons.injEq] at hx2
            have := low_asc (hx1 b (by simp))
            rw [← hx2.1] at this
            omega
        · exact h
      have hd := dec_ge (r := l) hc
      have e83 := fun H => up (ep52 hexs hexs_asc (by decide) (Lib.decodeL (c :: l)).1 H)
      rw [ixr_hi (by omega)] at e83
      unfold hexs at e83
      have hm : ((-1 : Int) < 0) := by omega
      simp -implicitDefEqProofs only [l79_5, r79_5, r79_6, r79_7, r79_8, r79_9, opn_z, opn_s, sel_z, sel_s, qCd_eq, qIf_true, qIf_false, qFn_eq, qBl_eq, qO_some, qRes_val, qHp_some, qPick_true, qPick_false, qG_tt, qG_ff, qG_tf, qG_ft, cellsK_some, qLd_ptr, qLd_vptr, qLdA_ptr, qLdA_vptr, qFa_ptr, qFa_vptr, qNc_ptr, qNc_vptr, qNc_fn, qNot_bool, qExt_tup, qCallV_fn, qLss_int, qLeq_int, qGtr_int, qGeq_int, qEql_int, qNeq_int, qAdd_int, qSub_int, qMul_int, qConvI_int, qLenL_sl, qLenL_hsl, qLenS_str, foldO, min2_int, max2_int, qSame_refl, Nat.zero_add, List.getElem?_cons_zero, List.getElem?_cons_succ, List.nil_append, List.cons_append, List.append_nil, one_bool, one_int, one_str, one_nilp, one_ptr, one_sl, one_hsl, one_map, one_fn, List.length_cons, List.length_nil, List.set_cons_zero, List.set_cons_succ, Nat.reduceLT, Nat.reduceAdd, qG_un, qResN_val, qCallVN_fn, AV.kill, AV.kills, Tk.kill, nx, e83, hm, decide_true]
      simp [fourZ, hno]
theorem ep81 (s : Str) (H : AH) : EP3 79 [.str s] H = some (.val (.int .i32 (fourZ s)) H) :=
  uo_form e79 xf79 rfl rfl rfl rfl (four_walk s) H
end T
set_option linter.unusedVariables false
set_option linter.unusedSimpArgs false
set_option maxRecDepth 10000
namespace T
open Go Go.Aes Go.Proofs

/-! ### a point: what stands behind a mark of one -/
def halfF (v : Nat) (t : Str) : Option (Nat × Nat) :=
  if hp t [92, 117] then match fourF (t.drop 2) with
    | some w => if w < 56320 ∨ 57344 ≤ w then none else some ((v - 55296) * 1024 + (w - 56320) + 65536, 10)
    | none => none
  else none
def pointF (s : Str) : Option (Nat × Nat) :=
  match fourF s with
  | none => none
  | some v => if v < 55296 ∨ 57344 ≤ v then some (v, 4) else if 56320 ≤ v then none else halfF v (s.drop 4)
/-- what is answered -/
def PtOk (r : AV) (s : Str) : Prop := ∃ a b : Int, r = .tup [.int .i32 a, .int .i64 b] ∧ (match pointF s with
  | none => a < 0
  | some q => a = (q.1 : Int) ∧ b = (q.2 : Int))

theorem hp_len {s p : Str} (h : hp s p = true) : p.length ≤ s.length := by
  have := congrArg List.length (of_decide_eq_true h)
  rw [List.length_take] at this
  omega
theorem shl_10 (z : Int) : binop X .shl 21 (.int .i32 z) (.int .u64 10) = some (.int .i32 (IntKind.i32.wrap (z * 1024))) := by
  show ofSem (Op.shift .shl .i32 z .u64 10) = _
  rw [shift_shl .i32 .u64 z 10 (by decide) (by decide)]
  rfl

set_option maxHeartbeats 1000000 in
theorem point_walk (s : Str) : c65 EP3 [.str s] H0 (fun v _ => PtOk v.kill s) := by
  have e79 := fun H => ep81 s H
  cases hf : fourF s with
  | none =>
    have hz : fourZ s = -1 := by simp [fourZ, hf]
    rw [hz] at e79
    have c1 : ((-1 : Int) < 55296) := by omega
    simp -implicitDefEqProofs only [c65, r65_0, r65_1, r65_2, r65_3, opn_z, opn_s, sel_z, sel_s, qCd_eq, qIf_true, qIf_false, qFn_eq, qBl_eq, qO_some, qRes_val, qHp_some, qPick_true, qPick_false, qG_tt, qG_ff, qG_tf, qG_ft, cellsK_some, qLd_ptr, qLd_vptr, qLdA_ptr, qLdA_vptr, qFa_ptr, qFa_vptr, qNc_ptr, qNc_vptr, qNc_fn, qNot_bool, qExt_tup, qCallV_fn, qLss_int, qLeq_int, qGtr_int, qGeq_int, qEql_int, qNeq_int, qAdd_int, qSub_int, qMul_int, qConvI_int, qLenL_sl, qLenL_hsl, qLenS_str, foldO, min2_int, max2_int, qSame_refl, Nat.zero_add, List.getElem?_cons_zero, List.getElem?_cons_succ, List.nil_append, List.cons_append, List.append_nil, one_bool, one_int, one_str, one_nilp, one_ptr, one_sl, one_hsl, one_map, one_fn, List.length_cons, List.length_nil, List.set_cons_zero, List.set_cons_succ, Nat.reduceLT, Nat.reduceAdd, qG_un, qResN_val, qCallVN_fn, e79, c1, decide_true]
    exact ⟨-1, 4, rfl, by simp [pointF, hf]⟩
  | some v =>
    have hz : fourZ s = (v : Int) := by simp [fourZ, hf]
    rw [hz] at e79
    obtain ⟨hv, hl⟩ := fourF_lt hf
    by_cases h1 : v < 55296
    · have c1 : ((v : Int) < 55296) := by omega
      simp -implicitDefEqProofs only [c65, r65_0, r65_1, r65_2, r65_3, opn_z, opn_s, sel_z, sel_s, qCd_eq, qIf_true, qIf_false, qFn_eq, qBl_eq, qO_some, qRes_val, qHp_some, qPick_true, qPick_false, qG_tt, qG_ff, qG_tf, qG_ft, cellsK_some, qLd_ptr, qLd_vptr, qLdA_ptr, qLdA_vptr, qFa_ptr, qFa_vptr, qNc_ptr, qNc_vptr, qNc_fn, qNot_bool, qExt_tup, qCallV_fn, qLss_int, qLeq_int, qGtr_int, qGeq_int, qEql_int, qNeq_int, qAdd_int, qSub_int, qMul_int, qConvI_int, qLenL_sl, qLenL_hsl, qLenS_str, foldO, min2_int, max2_int, qSame_refl, Nat.zero_add, List.getElem?_cons_zero, List.getElem?_cons_succ, List.nil_append, List.cons_append, List.append_nil, one_bool, one_int, one_str, one_nilp, one_ptr, one_sl, one_hsl, one_map, one_fn, List.length_cons, List.length_nil, List.set_cons_zero, List.set_cons_succ, Nat.reduceLT, Nat.reduceAdd, qG_un, qResN_val, qCallVN_fn, e79, c1, decide_true]
      exact ⟨v, 4, rfl, by simp [pointF, hf, h1]⟩
    have c1 : ¬ ((v : Int) < 55296) := by omega
    by_cases h2 : 57344 ≤ v
    · have c2 : ((v : Int) ≥ 57344) := by omega
      simp -implicitDefEqProofs only [c65, r65_0, r65_1, r65_2, r65_3, opn_z, opn_s, sel_z, sel_s, qCd_eq, qIf_true, qIf_false, qFn_eq, qBl_eq, qO_some, qRes_val, qHp_some, qPick_true, qPick_false, qG_tt, qG_ff, qG_tf, qG_ft, cellsK_some, qLd_ptr, qLd_vptr, qLdA_ptr, qLdA_vptr, qFa_ptr, qFa_vptr, qNc_ptr, qNc_vptr, qNc_fn, qNot_bool, qExt_tup, qCallV_fn, qLss_int, qLeq_int, qGtr_int, qGeq_int, qEql_int, qNeq_int, qAdd_int, qSub_int, qMul_int, qConvI_int, qLenL_sl, qLenL_hsl, qLenS_str, foldO, min2_int, max2_int, qSame_refl, Nat.zero_add, List.getElem?_cons_zero, List.getElem?_cons_succ, List.nil_append, List.cons_append, List.append_nil, one_bool, one_int, one_str, one_nilp, one_ptr, one_sl, one_hsl, one_map, one_fn, List.length_cons, List.length_nil, List.set_cons_zero, List.set_cons_succ, Nat.reduceLT, Nat.reduceAdd, qG_un, qResN_val, qCallVN_fn, e79, c1, c2, decide_true, decide_false]
      exact ⟨v, 4, rfl, by simp [pointF, hf, h2]⟩
    have c2 : ¬ ((v : Int) ≥ 57344) := by omega
    by_cases h3 : 56320 ≤ v
    · have c1003 : ((v : Int) ≥ 56320) := by omega
      simp -implicitDefEqProofs only [c65, r65_0, r65_1, r65_2, r65_4, r65_5, opn_z, opn_s, sel_z, sel_s, qCd_eq, qIf_true, qIf_false, qFn_eq, qBl_eq, qO_some, qRes_val, qHp_some, qPick_true, qPick_false, qG_tt, qG_ff, qG_tf, qG_ft, cellsK_some, qLd_ptr, qLd_vptr, qLdA_ptr, qLdA_vptr, qFa_ptr, qFa_vptr, qNc_ptr, qNc_vptr, qNc_fn, qNot_bool, qExt_tup, qCallV_fn, qLss_int, qLeq_int, qGtr_int, qGeq_int, qEql_int, qNeq_int, qAdd_int, qSub_int, qMul_int, qConvI_int, qLenL_sl, qLenL_hsl, qLenS_str, foldO, min2_int, max2_int, qSame_refl, Nat.zero_add, List.getElem?_cons_zero, List.getElem?_cons_succ, List.nil_append, List.cons_append, List.append_nil, one_bool, one_int, one_str, one_nilp, one_ptr, one_sl, one_hsl, one_map, one_fn, List.length_cons, List.length_nil, List.set_cons_zero, List.set_cons_succ, Nat.reduceLT, Nat.reduceAdd, qG_un, qResN_val, qCallVN_fn, e79, c1, c2, c1003, decide_true, decide_false]
      exact ⟨-1, 0, rfl, by simp [pointF, hf, h1, h2, h3]⟩
    have c1003 : ¬ ((v : Int) ≥ 56320) := by omega
    have sl : ∀ k : AV → Prop, qSlc Tryd.t9.desc 0 (.str s) (some (.int .i64 4)) none none k = k (.str (s.drop 4)) := fun k => slcS_lo s 4 hl k
    have e38 := fun H => up (ep82 (s.drop 4) [92, 117] H)
    have hP : pointF s = halfF v (s.drop 4) := by simp [pointF, hf, h1, h2, h3]
    cases hh : hp (s.drop 4) [92, 117] with
    | false =>
      rw [hh] at e38
      simp -implicitDefEqProofs only [c65, r65_0, r65_1, r65_2, r65_4, r65_5, opn_z, opn_s, sel_z, sel_s, qCd_eq, qIf_true, qIf_false, qFn_eq, qBl_eq, qO_some, qRes_val, qHp_some, qPick_true, qPick_false, qG_tt, qG_ff, qG_tf, qG_ft, cellsK_some, qLd_ptr, qLd_vptr, qLdA_ptr, qLdA_vptr, qFa_ptr, qFa_vptr, qNc_ptr, qNc_vptr, qNc_fn, qNot_bool, qExt_tup, qCallV_fn, qLss_int, qLeq_int, qGtr_int, qGeq_int, qEql_int, qNeq_int, qAdd_int, qSub_int, qMul_int, qConvI_int, qLenL_sl, qLenL_hsl, qLenS_str, foldO, min2_int, max2_int, qSame_refl, Nat.zero_add, List.getElem?_cons_zero, List.getElem?_cons_succ, List.nil_append, List.cons_append, List.append_nil, one_bool, one_int, one_str, one_nilp, one_ptr, one_sl, one_hsl, one_map, one_fn, List.length_cons, List.length_nil, List.set_cons_zero, List.set_cons_succ, Nat.reduceLT, Nat.reduceAdd, qG_un, qResN_val, qCallVN_fn, e79, c1, c2, c1003, decide_true, decide_false, sl, e38, Bool.not_false]
      exact ⟨-1, 0, rfl, by rw [hP]; simp [halfF, hh]⟩
    | true =>
      rw [hh] at e38
      have h6 := hp_len hh
      simp only [List.length_drop, List.length_cons, List.length_nil] at h6
      have sl6 : ∀ k : AV → Prop, qSlc Tryd.t9.desc 0 (.str s) (some (.int .i64 6)) none none k = k (.str (s.drop 6)) := fun k => slcS_lo s 6 (by omega) k
      have e79' := fun H => ep81 (s.drop 6) H
      have hd : (s.drop 4).drop 2 = s.drop 6 := by rw [List.drop_drop]
      cases hg : fourF (s.drop 6) with
      | none =>
        have hz2 : fourZ (s.drop 6) = -1 := by simp [fourZ, hg]
        rw [hz2] at e79'
        have c1004 : ((-1 : Int) < 56320) := by omega
        simp -implicitDefEqProofs only [c65, r65_0, r65_1, r65_2, r65_4, r65_6, r65_7, r65_8, opn_z, opn_s, sel_z, sel_s, qCd_eq, qIf_true, qIf_false, qFn_eq, qBl_eq, qO_some, qRes_val, qHp_some, qPick_true, qPick_false, qG_tt, qG_ff, qG_tf, qG_ft, cellsK_some, qLd_ptr, qLd_vptr, qLdA_ptr, qLdA_vptr, qFa_ptr, qFa_vptr, qNc_ptr, qNc_vptr, qNc_fn, qNot_bool, qExt_tup, qCallV_fn, qLss_int, qLeq_int, qGtr_int, qGeq_int, qEql_int, qNeq_int, qAdd_int, qSub_int, qMul_int, qConvI_int, qLenL_sl, qLenL_hsl, qLenS_str, foldO, min2_int, max2_int, qSame_refl, Nat.zero_add, List.getElem?_cons_zero, List.getElem?_cons_succ, List.nil_append, List.cons_append, List.append_nil, one_bool, one_int, one_str, one_nilp, one_ptr, one_sl, one_hsl, one_map, one_fn, List.length_cons, List.length_nil, List.set_cons_zero, List.set_cons_succ, Nat.reduceLT, Nat.reduceAdd, qG_un, qResN_val, qCallVN_fn, e79, c1, c2, c1003, decide_true, decide_false, sl, e38, Bool.not_true, sl6, e79', c1004]
        exact ⟨-1, 0, rfl, by rw [hP]; simp [halfF, hh, hd, hg]⟩
      | some w =>
        have hz2 : fourZ (s.drop 6) = (w : Int) := by simp [fourZ, hg]
        rw [hz2] at e79'
        obtain ⟨hw, _⟩ := fourF_lt hg
        by_cases h4 : w < 56320
        · have c1004 : ((w : Int) < 56320) := by omega
          simp -implicitDefEqProofs only [c65, r65_0, r65_1, r65_2, r65_4, r65_6, r65_7, r65_8, opn_z, opn_s, sel_z, sel_s, qCd_eq, qIf_true, qIf_false, qFn_eq, qBl_eq, qO_some, qRes_val, qHp_some, qPick_true, qPick_false, qG_tt, qG_ff, qG_tf, qG_ft, cellsK_some, qLd_ptr, qLd_vptr, qLdA_ptr, qLdA_vptr, qFa_ptr, qFa_vptr, qNc_ptr, qNc_vptr, qNc_fn, qNot_bool, qExt_tup, qCallV_fn, qLss_int, qLeq_int, qGtr_int, qGeq_int, qEql_int, qNeq_int, qAdd_int, qSub_int, qMul_int, qConvI_int, qLenL_sl, qLenL_hsl, qLenS_str, foldO, min2_int, max2_int, qSame_refl, Nat.zero_add, List.getElem?_cons_zero, List.getElem?_cons_succ, List.nil_append, List.cons_append, List.append_nil, one_bool, one_int, one_str, one_nilp, one_ptr, one_sl, one_hsl, one_map, one_fn, List.length_cons, List.length_nil, List.set_cons_zero, List.set_cons_succ, Nat.reduceLT, Nat.reduceAdd, qG_un, qResN_val, qCallVN_fn, e79, c1, c2, c1003, decide_true, decide_false, sl, e38, Bool.not_true, sl6, e79', c1004]
          exact ⟨-1, 0, rfl, by rw [hP]; simp [halfF, hh, hd, hg, h4]⟩
        have c1004 : ¬ ((w : Int) < 56320) := by omega
        by_cases h5 : 57344 ≤ w
        · have c1005 : ((w : Int) ≥ 57344) := by omega
          simp -implicitDefEqProofs only [c65, r65_0, r65_1, r65_2, r65_4, r65_6, r65_7, r65_8, opn_z, opn_s, sel_z, sel_s, qCd_eq, qIf_true, qIf_false, qFn_eq, qBl_eq, qO_some, qRes_val, qHp_some, qPick_true, qPick_false, qG_tt, qG_ff, qG_tf, qG_ft, cellsK_some, qLd_ptr, qLd_vptr, qLdA_ptr, qLdA_vptr, qFa_ptr, qFa_vptr, qNc_ptr, qNc_vptr, qNc_fn, qNot_bool, qExt_tup, qCallV_fn, qLss_int, qLeq_int, qGtr_int, qGeq_int, qEql_int, qNeq_int, qAdd_int, qSub_int, qMul_int, qConvI_int, qLenL_sl, qLenL_hsl, qLenS_str, foldO, min2_int, max2_int, qSame_refl, Nat.zero_add, List.getElem?_cons_zero, List.getElem?_cons_succ, List.nil_append, List.cons_append, List.append_nil, one_bool, one_int, one_str, one_nilp, one_ptr, one_sl, one_hsl, one_map, one_fn, List.length_cons, List.length_nil, List.set_cons_zero, List.set_cons_succ, Nat.reduceLT, Nat.reduceAdd, qG_un, qResN_val, qCallVN_fn, e79, c1, c2, c1003, decide_true, decide_false, sl, e38, Bool.not_true, sl6, e79', c1004, c1005]
          exact ⟨-1, 0, rfl, by rw [hP]; simp [halfF, hh, hd, hg, h5]⟩
        have c1005 : ¬ ((w : Int) ≥ 57344) := by omega
        have w1 : IntKind.i32.wrap ((v : Int) - 55296) = (v : Int) - 55296 := wrap32 (by omega) (by omega)
        have w2 : IntKind.i32.wrap (((v : Int) - 55296) * 1024) = ((v : Int) - 55296) * 1024 := wrap32 (by omega) (by omega)
        have w3 : IntKind.i32.wrap ((w : Int) - 56320) = (w : Int) - 56320 := wrap32 (by omega) (by omega)
        have w4 : IntKind.i32.wrap (((v : Int) - 55296) * 1024 + ((w : Int) - 56320)) = ((v : Int) - 55296) * 1024 + ((w : Int) - 56320) := wrap32 (by omega) (by omega)
        have w5 : IntKind.i32.wrap (((v : Int) - 55296) * 1024 + ((w : Int) - 56320) + 65536) = (((v - 55296) * 1024 + (w - 56320) + 65536 : Nat) : Int) := by rw [wrap32 (by omega) (by omega)]; omega
        have sh := shl_10 ((v : Int) - 55296)
        rw [w2] at sh
        simp -implicitDefEqProofs only [c65, r65_0, r65_1, r65_2, r65_4, r65_6, r65_7, r65_9, opn_z, opn_s, sel_z, sel_s, qCd_eq, qIf_true, qIf_false, qFn_eq, qBl_eq, qO_some, qRes_val, qHp_some, qPick_true, qPick_false, qG_tt, qG_ff, qG_tf, qG_ft, cellsK_some, qLd_ptr, qLd_vptr, qLdA_ptr, qLdA_vptr, qFa_ptr, qFa_vptr, qNc_ptr, qNc_vptr, qNc_fn, qNot_bool, qExt_tup, qCallV_fn, qLss_int, qLeq_int, qGtr_int, qGeq_int, qEql_int, qNeq_int, qAdd_int, qSub_int, qMul_int, qConvI_int, qLenL_sl, qLenL_hsl, qLenS_str, foldO, min2_int, max2_int, qSame_refl, Nat.zero_add, List.getElem?_cons_zero, List.getElem?_cons_succ, List.nil_append, List.cons_append, List.append_nil, one_bool, one_int, one_str, one_nilp, one_ptr, one_sl, one_hsl, one_map, one_fn, List.length_cons, List.length_nil, List.set_cons_zero, List.set_cons_succ, Nat.reduceLT, Nat.reduceAdd, qG_un, qResN_val, qCallVN_fn, e79, c1, c2, c1003, decide_true, decide_false, sl, e38, Bool.not_true, sl6, e79', c1004, c1005, w1, sh, w3, w4, w5]
        exact ⟨_, 10, rfl, by rw [hP]; simp [halfF, hh, hd, hg, h4, h5]⟩
theorem ep56 (s : Str) : ∃ r, PtOk r s ∧ ∀ H, EP3 65 [.str s] H = some (.val r H) := by
  refine uo_form_ex (X := X) (D := OD2) (O := OF3) (S := PS) (al := [.str s]) e65 xf65 rfl rfl rfl (Q := fun v => PtOk v s) ?_
  have h := point_walk s
  have key : (fun (v : AV) (_ : AH) => PtOk v.kill s) = (fun v _ => v.kill.free = true ∧ PtOk v.kill s) := by
    funext v H
    apply propext
    constructor
    · rintro ⟨a, b, h1, h2⟩
      exact ⟨by rw [h1]; rfl, a, b, h1, h2⟩
    · exact fun h => h.2
  rw [key] at h
  exact h
theorem halfF_lt {v : Nat} {t : Str} {q : Nat × Nat} (hv : 55296 ≤ v ∧ v < 56320) (h : halfF v t = some q) : okR q.1 ∧ q.2 = 10 ∧ 6 ≤ t.length := by
  unfold halfF at h
  split at h
  · rename_i hh
    cases hg : fourF (t.drop 2) with
    | none => rw [hg] at h; cases h
    | some w =>
      rw [hg] at h
      simp only at h
      have := (fourF_lt hg).2
      rw [List.length_drop] at this
      split at h
      · cases h
      · injection h with h
        subst h
        exact ⟨.inr (by simp only; omega), rfl, by omega⟩
  · cases h
theorem pointF_lt {s : Str} {q : Nat × Nat} (h : pointF s = some q) : okR q.1 ∧ q.2 ≤ s.length ∧ (q.2 = 4 ∨ q.2 = 10) := by
  unfold pointF at h
  cases hf : fourF s with
  | none => rw [hf] at h; cases h
  | some v =>
    rw [hf] at h
    simp only at h
    obtain ⟨h1, h2⟩ := fourF_lt hf
    split at h
    · injection h with h
      subst h
      refine ⟨?_, h2, .inl rfl⟩
      unfold okR
      simp only
      omega
    · split at h
      · cases h
      · obtain ⟨a, b, c⟩ := halfF_lt (by omega) h
        rw [List.length_drop] at c
        exact ⟨a, by omega, .inr b⟩
theorem hexN_asc : ∀ {l : Str} {v w : Nat}, hexN l v = some w → ∀ c ∈ l, c.toNat < 128
  | [], v, w, h, c, hc => by cases hc
  | d :: l, v, w, h, c, hc => by
    simp only [hexN] at h
    cases hd : hexV d with
    | none => rw [hd] at h; cases h
    | some x =>
      rw [hd] at h
      rcases List.mem_cons.1 hc with rfl | hc
      · exact hexV_asc hd
      · exact hexN_asc h c hc
theorem fourF_asc {s : Str} {v : Nat} (h : fourF s = some v) {j : Nat} (hj : j < 4) {c : UInt8} (hc : s[j]? = some c) : c.toNat < 128 := by
  unfold fourF at h
  split at h
  · cases h
  · refine hexN_asc h c (List.mem_of_getElem? (i := j) ?_)
    rw [List.getElem?_take, if_pos hj]
    exact hc
/-- the bytes of a point are all below 128 -/
theorem pt_asc {s : Str} {q : Nat × Nat} (h : pointF s = some q) {j : Nat} (hj : j < q.2) {c : UInt8} (hc : s[j]? = some c) : c.toNat < 128 := by
  unfold pointF at h
  cases hf : fourF s with
  | none => rw [hf] at h; cases h
  | some v =>
    rw [hf] at h
    simp only at h
    rcases Nat.lt_or_ge j 4 with h4 | h4
    · exact fourF_asc hf h4 hc
    · split at h
      · injection h with h
        subst h
        simp only at hj; omega
      · split at h
        · cases h
        · unfold halfF at h
          split at h
          · rename_i hh
            have hc' : (s.drop 4)[j - 4]? = some c := by rw [List.getElem?_drop, show 4 + (j - 4) = j by omega]; exact hc
            have ht := of_decide_eq_true hh
            cases hg : fourF ((s.drop 4).drop 2) with
            | none => rw [hg] at h; cases h
            | some w =>
              rw [hg] at h
              simp only at h
              split at h
              · cases h
              · injection h with h
                subst h
                simp only at hj
                rcases Nat.lt_or_ge j 6 with h6 | h6
                · have : ((s.drop 4).take 2)[j - 4]? = some c := by rw [List.getElem?_take, if_pos (by omega)]; exact hc'
                  rw [show ([92, 117] : Str).length = 2 from rfl] at ht
                  rw [ht] at this
                  have hm := List.mem_of_getElem? this
                  rcases List.mem_cons.1 hm with rfl | hm
                  · decide
                  · obtain rfl := List.mem_singleton.1 hm
                    decide
                · exact fourF_asc hg (j := j - 6) (by omega) (by rw [List.drop_drop, List.getElem?_drop, show 4 + 2 + (j - 6) = j by omega]; exact hc)
          · cases h
end T
set_option linter.unusedVariables false
set_option linter.unusedSimpArgs false
set_option maxRecDepth 10000
namespace T
open Go Go.Aes Go.Proofs

/-! ### Unquote -/
def unqN : Nat → Str → Option Str
  | 0, _ => some []
  | _ + 1, [] => some []
  | n + 1, b :: r =>
    if b.toNat < 32 ∨ b = 34 then none
    else if b ≠ 92 then (unqN n r).map (b :: ·)
    else match r with
      | [] => none
      | c :: t =>
        if c = 117 then match pointF t with
          | none => none
          | some q => (unqN n (t.drop q.2)).map (encR q.1 ++ ·)
        else if Lib.indexByte escd c < 0 then none
        else (unqN n t).map (plain.getD (Lib.indexByte escd c).toNat 0 :: ·)
def unqF (t : Str) : Option Str := unqN t.length t
theorem unqN_eq : ∀ (n m : Nat) (t : Str), t.length ≤ n → t.length ≤ m → unqN n t = unqN m t
  | 0, 0, t, _, _ => rfl
  | 0, m + 1, t, h, _ => by
    obtain rfl : t = [] := List.eq_nil_of_length_eq_zero (by omega)
    rfl
  | n + 1, 0, t, _, h => by
    obtain rfl : t = [] := List.eq_nil_of_length_eq_zero (by omega)
    rfl
  | n + 1, m + 1, [], _, _ => rfl
  | n + 1, m + 1, b :: r, h1, h2 => by
    simp only [List.length_cons] at h1 h2
    simp only [unqN]
    rw [unqN_eq n m r (by omega) (by omega)]
    cases r with
    | nil => rfl
    | cons c t =>
      simp only [List.length_cons] at h1 h2
      simp only
      rw [unqN_eq n m t (by omega) (by omega)]
      cases pointF t with
      | none => rfl
      | some q =>
        simp only
        rw [unqN_eq n m (t.drop q.2) (by rw [List.length_drop]; omega) (by rw [List.length_drop]; omega)]
theorem unqF_cons (b : UInt8) (r : Str) : unqF (b :: r) = if b.toNat < 32 ∨ b = 34 then none else if b ≠ 92 then (unqF r).map (b :: ·)
    else match r with
      | [] => none
      | c :: t =>
        if c = 117 then match pointF t with
          | none => none
          | some q => (unqF (t.drop q.2)).map (encR q.1 ++ ·)
        else if Lib.indexByte escd c < 0 then none
        else (unqF t).map (plain.getD (Lib.indexByte escd c).toNat 0 :: ·) := by
  show unqN (r.length + 1) (b :: r) = _
  simp only [unqN]
  cases r with
  | nil => rfl
  | cons c t =>
    simp only
    rw [unqN_eq (c :: t).length t.length t (by simp) (Nat.le_refl _)]
    cases pointF t with
    | none => rfl
    | some q =>
      simp only
      rw [unqN_eq (c :: t).length (t.drop q.2).length (t.drop q.2) (by rw [List.length_drop]; simp; omega) (Nat.le_refl _)]
      rfl
theorem unqF_hi : ∀ (a b : Str), (∀ x ∈ a, 128 ≤ x.toNat) → unqF (a ++ b) = (unqF b).map (a ++ ·)
  | [], b, _ => by simp
  | x :: a, b, h => by
    have hx := h x (by simp)
    have h1 : ¬ (x.toNat < 32 ∨ x = 34) := by
      rintro (h | rfl)
      · omega
      · exact absurd hx (by decide)
    have h2 : x ≠ 92 := by rintro rfl; exact absurd hx (by decide)
    rw [List.cons_append, unqF_cons, if_neg h1, if_pos h2, unqF_hi a b (fun y hy => h y (by simp [hy])), Option.map_map]
    rfl

def uqR (o : Option Str) : AV := match o with
  | some t => .tup [.str t, .bool true]
  | none => .tup [.str [], .bool false]
/-- what is unquoted -/
def uqF (s : Str) : Option Str :=
  if s.length < 2 ∨ s.head? ≠ some 34 ∨ s.getLast? ≠ some 34 ∨ Lib.validD s = false then none else unqF ((s.drop 1).dropLast)
theorem uqF_mid (m : Str) : uqF (34 :: (m ++ [34])) = if Lib.validD m then unqF m else none := by
  have hv : Lib.validD (34 :: (m ++ [34])) = Lib.validD m := by
    rw [Lib.validD_cons _ _ (by decide)]
    have hh : Lib.validD [34] = true := by decide
    cases h : Lib.validD m with
    | true => rw [validD_app [34] _ m (Nat.le_refl _) h, hh]
    | false => exact validD_bad (valid_halt hh) _ m (Nat.le_refl _) h
  have h1 : ¬ ((34 :: (m ++ [34])).length < 2) := by simp
  have h3 : ((34 : UInt8) :: (m ++ [34])).getLast? = some 34 := by
    rw [← List.cons_append, List.getLast?_concat]
  unfold uqF
  rw [hv, h3]
  cases h : Lib.validD m with
  | true =>
    rw [if_neg (by simp)]
    simp
  | false => rw [if_pos (by simp)]; simp

set_option maxHeartbeats 2000000 in
theorem unq_loop (t : Str) (hl : t.length < 1000000000) (hv : Lib.validD t = true) (b i : Nat) (hne : i ≠ b) (H3 : AH) (hif : IsFn H3) (a0 v0 : AV) (hb0 : Bd H3 b [] a0 v0) (hg0 : H3.get i = some (.iter t 0)) (kr : KT Prop)
    (hkr : ∀ (o : Str) (x0 x4 x5 x6 x7 x8 x9 x10 x31 x38 x39 x40 x49 x55 x59 x66 x71 x77 x92 : AV) (H : AH), o = [] → unqF t = none → kr [x0, .str [], .bool false, x4, x5, x6, x7, x8, x9, x10, x31, x38, x39, x40, x49, x55, x59, x66, x71, x77, x92] H)
    (hkt : ∀ (o : Str) (x0 x2 x3 x5 x6 x7 x8 x9 x10 x31 x38 x39 x40 x49 x55 x59 x66 x71 x77 x92 : AV) (H : AH), IsFn H → unqF t = some o → o.length < 2000000000 → (∃ a v, Bd H b o a v) → r50_27 EP3 kr [x0, x2, x3, .ptr b 0, x5, x6, x7, x8, x9, x10, x31, x38, x39, x40, x49, x55, x59, x66, x71, x77, x92] H) (x2 x3 x6 x7 x8 x9 x10 x31 x39 x40 x49 x55 x59 x66 x71 x77 x92 : AV) :
    qLoop (l50_12 EP3 (r50_27 EP3 kr) kr) [.str t, x2, x3, .ptr b 0, .int .i64 0, x6, x7, x8, x9, x10, x31, .it i, x39, x40, x49, x55, x59, x66, x71, x77, x92] H3 := by
  refine loop_inv (fun m fr H' => ∃ (l B : Str) (p k : Nat) (a v : AV) (x2 x3 x6 x7 x8 x9 x10 x31 x39 x40 x49 x55 x59 x66 x71 x77 x92 : AV), m = l.length ∧ fr = [.str t, x2, x3, .ptr b 0, .int .i64 (k : Int), x6, x7, x8, x9, x10, x31, .it i, x39, x40, x49, x55, x59, x66, x71, x77, x92] ∧ IsFn H' ∧ H'.get i = some (.iter l p) ∧ Bd H' b B a v ∧ Lib.validD l = true ∧
      l = t.drop p ∧ p ≤ t.length ∧ k ≤ t.length ∧ (∀ j, p ≤ j → j < k → ∀ c, t[j]? = some c → c.toNat < 128) ∧ unqF t = (unqF (t.drop (max p k))).map (B ++ ·) ∧ B.length ≤ max p k) ?_ (m := t.length) ?_
  case refine_2 => exact ⟨t, [], 0, 0, a0, v0, _, _, _, _, _, _, _, _, _, _, _, _, _, _, _, _, _, rfl, rfl, hif, hg0, hb0, hv, rfl, Nat.zero_le _, Nat.zero_le _, fun j _ h => by omega, by simp, by simp⟩
  rintro m fr H' kk ⟨l, B, p, k, a, v, x2, x3, x6, x7, x8, x9, x10, x31, x39, x40, x49, x55, x59, x66, x71, x77, x92, rfl, rfl, hf, hg, hb, hvl, hlt, hp, hk, hA, hU, hB⟩ hkk
  cases l with
  | nil =>
    have nx := fun k => next_nil hg k
    have hpt : t.length ≤ p := by
      have := congrArg List.length hlt
      rw [List.length_drop] at this
      simp at this
      omega
    have hmx : t.drop (max p k) = [] := List.drop_of_length_le (by omega)
    rw [hmx] at hU
    have hU' : unqF t = some B := by rw [hU]; simp [unqF, unqN]
    simp -implicitDefEqProofs only [l50_12, r50_7, opn_z, opn_s, sel_z, sel_s, qCd_eq, qIf_true, qIf_false, qFn_eq, qBl_eq, qO_some, qRes_val, qHp_some, qPick_true, qPick_false, qG_tt, qG_ff, qG_tf, qG_ft, cellsK_some, qLd_ptr, qLd_vptr, qLdA_ptr, qLdA_vptr, qFa_ptr, qFa_vptr, qNc_ptr, qNc_vptr, qNc_fn, qNot_bool, qExt_tup, qCallV_fn, qLss_int, qLeq_int, qGtr_int, qGeq_int, qEql_int, qNeq_int, qAdd_int, qSub_int, qMul_int, qConvI_int, qLenL_sl, qLenL_hsl, qLenS_str, foldO, min2_int, max2_int, qSame_refl, Nat.zero_add, List.getElem?_cons_zero, List.getElem?_cons_succ, List.nil_append, List.cons_append, List.append_nil, one_bool, one_int, one_str, one_nilp, one_ptr, one_sl, one_hsl, one_map, one_fn, List.length_cons, List.length_nil, List.set_cons_zero, List.set_cons_succ, Nat.reduceLT, Nat.reduceAdd, qG_un, qResN_val, qCallVN_fn, nx]
    exact hkt B _ _ _ _ _ _ _ _ _ _ _ _ _ _ _ _ _ _ _ _ H' hf hU' (by omega) ⟨a, v, hb⟩
  | cons c l =>
    have nx := fun k => next_cons hg k
    have hlti := lt_i hg
    have hb' := hb.iter (l' := (c :: l).drop (Lib.decodeL (c :: l)).2) (p' := p + (Lib.decodeL (c :: l)).2) hg
    have hg' : (H'.set i (some (.iter ((c :: l).drop (Lib.decodeL (c :: l)).2) (p + (Lib.decodeL (c :: l)).2)))).get i = some (.iter ((c :: l).drop (Lib.decodeL (c :: l)).2) (p + (Lib.decodeL (c :: l)).2)) := by rw [get_set_i hlti, if_pos rfl]
    have hif' : IsFn (H'.set i (some (.iter ((c :: l).drop (Lib.decodeL (c :: l)).2) (p + (Lib.decodeL (c :: l)).2)))) := inferInstance
    generalize H'.set i (some (.iter ((c :: l).drop (Lib.decodeL (c :: l)).2) (p + (Lib.decodeL (c :: l)).2))) = H'' at *
    have htp : t[p]? = some c := by
      have : (t.drop p)[0]? = some c := by rw [← hlt]; rfl
      rwa [List.getElem?_drop, Nat.add_zero] at this
    have hpl : p < t.length := (List.getElem?_eq_some_iff.1 htp).1
    have hll : t.length = p + (l.length + 1) := by
      have := congrArg List.length hlt
      rw [List.length_drop] at this
      simp at this
      omega
    have hl1 : l = t.drop (p + 1) := by
      have : (t.drop p).drop 1 = l := by rw [← hlt]; rfl
      rw [← this, List.drop_drop]
    rcases Nat.lt_or_ge c.toNat 128 with hc | hc
    · rw [Lib.validD_cons c l hc] at hvl
      rw [dec_ascii c l hc] at nx hg'
      have hgl : H''.get i = some (.iter l (p + 1)) := hg'
      by_cases hpk : p < k
      · -- behind an escape
        have c1 : (p : Int) < (k : Int) := by omega
        simp -implicitDefEqProofs only [l50_12, r50_7, r50_8, r50_14, opn_z, opn_s, sel_z, sel_s, qCd_eq, qIf_true, qIf_false, qFn_eq, qBl_eq, qO_some, qRes_val, qHp_some, qPick_true, qPick_false, qG_tt, qG_ff, qG_tf, qG_ft, cellsK_some, qLd_ptr, qLd_vptr, qLdA_ptr, qLdA_vptr, qFa_ptr, qFa_vptr, qNc_ptr, qNc_vptr, qNc_fn, qNot_bool, qExt_tup, qCallV_fn, qLss_int, qLeq_int, qGtr_int, qGeq_int, qEql_int, qNeq_int, qAdd_int, qSub_int, qMul_int, qConvI_int, qLenL_sl, qLenL_hsl, qLenS_str, foldO, min2_int, max2_int, qSame_refl, Nat.zero_add, List.getElem?_cons_zero, List.getElem?_cons_succ, List.nil_append, List.cons_append, List.append_nil, one_bool, one_int, one_str, one_nilp, one_ptr, one_sl, one_hsl, one_map, one_fn, List.length_cons, List.length_nil, List.set_cons_zero, List.set_cons_succ, Nat.reduceLT, Nat.reduceAdd, qG_un, qResN_val, qCallVN_fn, nx, c1, decide_true]
        refine hkk l.length _ _ (by simp) ⟨l, B, p + 1, k, a, v, _, _, _, _, _, _, _, _, _, _, _, _, _, _, _, _, _, rfl, rfl, hif', hgl, hb', hvl, hl1, by omega, hk, fun j h1 h2 => hA j (by omega) h2, ?_, by omega⟩
        rw [show max (p + 1) k = max p k by omega]
        exact hU
      have c1 : ¬ (p : Int) < (k : Int) := by omega
      have hmx : max p k = p := by omega
      rw [hmx, ← hlt, unqF_cons] at hU
      rw [hmx] at hB
      by_cases h32 : c.toNat < 32
      · have c2 : ((c.toNat : Nat) : Int) < 32 := by omega
        rw [if_pos (.inl h32)] at hU
        simp -implicitDefEqProofs only [l50_12, r50_7, r50_8, r50_14, r50_15, r50_16, opn_z, opn_s, sel_z, sel_s, qCd_eq, qIf_true, qIf_false, qFn_eq, qBl_eq, qO_some, qRes_val, qHp_some, qPick_true, qPick_false, qG_tt, qG_ff, qG_tf, qG_ft, cellsK_some, qLd_ptr, qLd_vptr, qLdA_ptr, qLdA_vptr, qFa_ptr, qFa_vptr, qNc_ptr, qNc_vptr, qNc_fn, qNot_bool, qExt_tup, qCallV_fn, qLss_int, qLeq_int, qGtr_int, qGeq_int, qEql_int, qNeq_int, qAdd_int, qSub_int, qMul_int, qConvI_int, qLenL_sl, qLenL_hsl, qLenS_str, foldO, min2_int, max2_int, qSame_refl, Nat.zero_add, List.getElem?_cons_zero, List.getElem?_cons_succ, List.nil_append, List.cons_append, List.append_nil, one_bool, one_int, one_str, one_nilp, one_ptr, one_sl, one_hsl, one_map, one_fn, List.length_cons, List.length_nil, List.set_cons_zero, List.set_cons_succ, Nat.reduceLT, Nat.reduceAdd, qG_un, qResN_val, qCallVN_fn, nx, c1, decide_false, c2, decide_true]
        exact hkr [] _ _ _ _ _ _ _ _ _ _ _ _ _ _ _ _ _ _ _ _ rfl (by simpa using hU)
      have c2 : ¬ ((c.toNat : Nat) : Int) < 32 := by omega
      by_cases h34 : c = 34
      · have c1003 : (((c.toNat : Nat) : Int) == 34) = true := by subst h34; rfl
        rw [if_pos (.inr h34)] at hU
        simp -implicitDefEqProofs only [l50_12, r50_7, r50_8, r50_14, r50_15, r50_16, opn_z, opn_s, sel_z, sel_s, qCd_eq, qIf_true, qIf_false, qFn_eq, qBl_eq, qO_some, qRes_val, qHp_some, qPick_true, qPick_false, qG_tt, qG_ff, qG_tf, qG_ft, cellsK_some, qLd_ptr, qLd_vptr, qLdA_ptr, qLdA_vptr, qFa_ptr, qFa_vptr, qNc_ptr, qNc_vptr, qNc_fn, qNot_bool, qExt_tup, qCallV_fn, qLss_int, qLeq_int, qGtr_int, qGeq_int, qEql_int, qNeq_int, qAdd_int, qSub_int, qMul_int, qConvI_int, qLenL_sl, qLenL_hsl, qLenS_str, foldO, min2_int, max2_int, qSame_refl, Nat.zero_add, List.getElem?_cons_zero, List.getElem?_cons_succ, List.nil_append, List.cons_append, List.append_nil, one_bool, one_int, one_str, one_nilp, one_ptr, one_sl, one_hsl, one_map, one_fn, List.length_cons, List.length_nil, List.set_cons_zero, List.set_cons_succ, Nat.reduceLT, Nat.reduceAdd, qG_un, qResN_val, qCallVN_fn, nx, c1, decide_false, c2, c1003]
        exact hkr [] _ _ _ _ _ _ _ _ _ _ _ _ _ _ _ _ _ _ _ _ rfl (by simpa using hU)
      have c1003 : (((c.toNat : Nat) : Int) == 34) = false := by
        have : c.toNat ≠ 34 := fun e => h34 (by rw [← UInt8.toNat_inj, e]; rfl)
        simp; omega
      rw [if_neg (by rintro (h | h) <;> contradiction)] at hU
      by_cases h92 : c = 92
      case neg =>
        have c1004 : (!(((c.toNat : Nat) : Int) == 92)) = true := by
          have : c.toNat ≠ 92 := fun e => h92 (by rw [← UInt8.toNat_inj, e]; rfl)
          simp; omega
        rw [if_pos h92] at hU
        obtain ⟨H4, w4, a4, v4, e, h1, h2, h3, h4⟩ := wr54 b c.toNat (.inl (by omega)) H'' B _ _ hb' (by omega)
        have e64 := up e
        rw [encR_asc c hc] at h1
        have hg4 := h4 i _ hne hgl (fun k cs e => by cases e)
        simp -implicitDefEqProofs only [l50_12, r50_7, r50_8, r50_14, r50_15, r50_17, r50_18, opn_z, opn_s, sel_z, sel_s, qCd_eq, qIf_true, qIf_false, qFn_eq, qBl_eq, qO_some, qRes_val, qHp_some, qPick_true, qPick_false, qG_tt, qG_ff, qG_tf, qG_ft, cellsK_some, qLd_ptr, qLd_vptr, qLdA_ptr, qLdA_vptr, qFa_ptr, qFa_vptr, qNc_ptr, qNc_vptr, qNc_fn, qNot_bool, qExt_tup, qCallV_fn, qLss_int, qLeq_int, qGtr_int, qGeq_int, qEql_int, qNeq_int, qAdd_int, qSub_int, qMul_int, qConvI_int, qLenL_sl, qLenL_hsl, qLenS_str, foldO, min2_int, max2_int, qSame_refl, Nat.zero_add, List.getElem?_cons_zero, List.getElem?_cons_succ, List.nil_append, List.cons_append, List.append_nil, one_bool, one_int, one_str, one_nilp, one_ptr, one_sl, one_hsl, one_map, one_fn, List.length_cons, List.length_nil, List.set_cons_zero, List.set_cons_succ, Nat.reduceLT, Nat.reduceAdd, qG_un, qResN_val, qCallVN_fn, nx, c1, decide_false, c2, c1003, c1004, e64]
        refine hkk l.length _ _ (by simp) ⟨l, B ++ [c], p + 1, k, a4, v4, _, _, _, _, _, _, _, _, _, _, _, _, _, _, _, _, _, rfl, rfl, h2, hg4, h1, hvl, hl1, by omega, hk, fun j h1 h2 => hA j (by omega) h2, ?_, ?_⟩
        · rw [show max (p + 1) k = p + 1 by omega, ← hl1, hU, Option.map_map]
          congr 1
          funext x
          simp
        · simp; omega
      subst h92
      rw [if_neg (by simp)] at hU
      have c1004 : (!((((92 : UInt8).toNat : Nat) : Int) == 92)) = false := by decide
      have hw1 := wrap_up p (by omega)
      cases l with
      | nil =>
        simp only [Option.map_none] at hU
        have c1005 : (((p + 1 : Nat) : Int) ≥ (t.length : Int)) := by simp at hll; omega
        simp -implicitDefEqProofs only [l50_12, r50_7, r50_8, r50_14, r50_15, r50_17, r50_19, r50_20, opn_z, opn_s, sel_z, sel_s, qCd_eq, qIf_true, qIf_false, qFn_eq, qBl_eq, qO_some, qRes_val, qHp_some, qPick_true, qPick_false, qG_tt, qG_ff, qG_tf, qG_ft, cellsK_some, qLd_ptr, qLd_vptr, qLdA_ptr, qLdA_vptr, qFa_ptr, qFa_vptr, qNc_ptr, qNc_vptr, qNc_fn, qNot_bool, qExt_tup, qCallV_fn, qLss_int, qLeq_int, qGtr_int, qGeq_int, qEql_int, qNeq_int, qAdd_int, qSub_int, qMul_int, qConvI_int, qLenL_sl, qLenL_hsl, qLenS_str, foldO, min2_int, max2_int, qSame_refl, Nat.zero_add, List.getElem?_cons_zero, List.getElem?_cons_succ, List.nil_append, List.cons_append, List.append_nil, one_bool, one_int, one_str, one_nilp, one_ptr, one_sl, one_hsl, one_map, one_fn, List.length_cons, List.length_nil, List.set_cons_zero, List.set_cons_succ, Nat.reduceLT, Nat.reduceAdd, qG_un, qResN_val, qCallVN_fn, nx, c1, decide_false, c2, c1003, c1004, hw1, c1005, decide_true]
        exact hkr [] _ _ _ _ _ _ _ _ _ _ _ _ _ _ _ _ _ _ _ _ rfl hU
      | cons d l =>
        simp only [List.length_cons] at hll
        have c1005 : ¬ (((p + 1 : Nat) : Int) ≥ (t.length : Int)) := by omega
        have htd : t[p + 1]? = some d := by
          have : (t.drop (p + 1))[0]? = some d := by rw [← hl1]; rfl
          rwa [List.getElem?_drop, Nat.add_zero] at this
        have ix := fun k => qIx_at t (p + 1) d htd k
        have hl2 : l = t.drop (p + 2) := by
          have : (t.drop (p + 1)).drop 1 = l := by rw [← hl1]; rfl
          rw [← this, List.drop_drop]
        have hw2 : IntKind.i64.wrap ((p : Int) + 2) = ((p + 2 : Nat) : Int) := by rw [i64_in' (by omega)]; omega
        by_cases hu : d = 117
        · subst hu
          simp only at hU
          rw [if_pos trivial] at hU
          have c1006 : ((((117 : UInt8).toNat : Nat) : Int) == 117) = true := by decide
          have sl := fun k => slcS_lo t (p + 2) (by omega) k
          rw [← hl2] at sl
          obtain ⟨r, ⟨pa, pb, rfl, hpt⟩, e65⟩ := ep56 l
          cases hq : pointF l with
          | none =>
            rw [hq] at hpt hU
            simp only at hpt hU
            simp -implicitDefEqProofs only [l50_12, r50_7, r50_8, r50_14, r50_15, r50_17, r50_19, r50_21, r50_22, r50_23, r50_24, opn_z, opn_s, sel_z, sel_s, qCd_eq, qIf_true, qIf_false, qFn_eq, qBl_eq, qO_some, qRes_val, qHp_some, qPick_true, qPick_false, qG_tt, qG_ff, qG_tf, qG_ft, cellsK_some, qLd_ptr, qLd_vptr, qLdA_ptr, qLdA_vptr, qFa_ptr, qFa_vptr, qNc_ptr, qNc_vptr, qNc_fn, qNot_bool, qExt_tup, qCallV_fn, qLss_int, qLeq_int, qGtr_int, qGeq_int, qEql_int, qNeq_int, qAdd_int, qSub_int, qMul_int, qConvI_int, qLenL_sl, qLenL_hsl, qLenS_str, foldO, min2_int, max2_int, qSame_refl, Nat.zero_add, List.getElem?_cons_zero, List.getElem?_cons_succ, List.nil_append, List.cons_append, List.append_nil, one_bool, one_int, one_str, one_nilp, one_ptr, one_sl, one_hsl, one_map, one_fn, List.length_cons, List.length_nil, List.set_cons_zero, List.set_cons_succ, Nat.reduceLT, Nat.reduceAdd, qG_un, qResN_val, qCallVN_fn, nx, c1, decide_false, c2, c1003, c1004, hw1, c1005, ix, c1006, hw2, sl, e65, hpt, decide_true]
            exact hkr [] _ _ _ _ _ _ _ _ _ _ _ _ _ _ _ _ _ _ _ _ rfl (by simpa using hU)
          | some q =>
            rw [hq] at hpt hU
            simp only at hpt hU
            obtain ⟨rfl, rfl⟩ := hpt
            obtain ⟨hok, hql, hq4⟩ := pointF_lt hq
            have c1007 : ¬ ((q.1 : Int) < 0) := by omega
            obtain ⟨H4, w4, a4, v4, e, h1, h2, h3, h4⟩ := wr54 b q.1 hok H'' B _ _ hb' (by omega)
            have e64 := up e
            have hg4 := h4 i _ hne hgl (fun k cs e => by cases e)
            have hw3 : IntKind.i64.wrap (((p + 2 : Nat) : Int) + (q.2 : Int)) = ((p + 2 + q.2 : Nat) : Int) := by rw [i64_in' (by omega)]; omega
            have hel := encR_len q.1
            simp -implicitDefEqProofs only [l50_12, r50_7, r50_8, r50_14, r50_15, r50_17, r50_19, r50_21, r50_22, r50_23, r50_25, r50_26, opn_z, opn_s, sel_z, sel_s, qCd_eq, qIf_true, qIf_false, qFn_eq, qBl_eq, qO_some, qRes_val, qHp_some, qPick_true, qPick_false, qG_tt, qG_ff, qG_tf, qG_ft, cellsK_some, qLd_ptr, qLd_vptr, qLdA_ptr, qLdA_vptr, qFa_ptr, qFa_vptr, qNc_ptr, qNc_vptr, qNc_fn, qNot_bool, qExt_tup, qCallV_fn, qLss_int, qLeq_int, qGtr_int, qGeq_int, qEql_int, qNeq_int, qAdd_int, qSub_int, qMul_int, qConvI_int, qLenL_sl, qLenL_hsl, qLenS_str, foldO, min2_int, max2_int, qSame_refl, Nat.zero_add, List.getElem?_cons_zero, List.getElem?_cons_succ, List.nil_append, List.cons_append, List.append_nil, one_bool, one_int, one_str, one_nilp, one_ptr, one_sl, one_hsl, one_map, one_fn, List.length_cons, List.length_nil, List.set_cons_zero, List.set_cons_succ, Nat.reduceLT, Nat.reduceAdd, qG_un, qResN_val, qCallVN_fn, nx, c1, decide_false, c2, c1003, c1004, hw1, c1005, ix, c1006, hw2, sl, e65, c1007, e64, hw3]
            refine hkk (117 :: l).length _ _ (by simp) ⟨117 :: l, B ++ encR q.1, p + 1, p + 2 + q.2, a4, v4, _, _, _, _, _, _, _, _, _, _, _, _, _, _, _, _, _, rfl, rfl, h2, hg4, h1, hvl, hl1, by omega, by omega, ?_, ?_, ?_⟩
            · intro j hj1 hj2 x hx
              by_cases hj : j = p + 1
              · subst hj
                rw [htd] at hx
                injection hx with hx
                subst hx
                decide
              · exact pt_asc hq (j := j - (p + 2)) (by omega) (by rw [hl2, List.getElem?_drop, show p + 2 + (j - (p + 2)) = j by omega]; exact hx)
            · rw [show max (p + 1) (p + 2 + q.2) = p + 2 + q.2 by omega, hU, hl2, List.drop_drop, Option.map_map]
              congr 1
              funext x
              simp
            · simp only [List.length_append]; omega
        · simp only at hU
          rw [if_neg hu] at hU
          have c1006 : (((d.toNat : Nat) : Int) == 117) = false := by
            have : d.toNat ≠ 117 := fun e => hu (by rw [← UInt8.toNat_inj, e]; rfl)
            simp; omega
          have e53 := fun H => up (ep43 [34,92,47,98,102,110,114,116] d H)
          have hib := ib_ge escd d
          by_cases hat : Lib.indexByte escd d < 0
          · rw [if_pos hat] at hU
            unfold escd at hat
            simp -implicitDefEqProofs only [l50_12, r50_7, r50_8, r50_14, r50_15, r50_17, r50_19, r50_21, r50_9, r50_10, r50_11, opn_z, opn_s, sel_z, sel_s, qCd_eq, qIf_true, qIf_false, qFn_eq, qBl_eq, qO_some, qRes_val, qHp_some, qPick_true, qPick_false, qG_tt, qG_ff, qG_tf, qG_ft, cellsK_some, qLd_ptr, qLd_vptr, qLdA_ptr, qLdA_vptr, qFa_ptr, qFa_vptr, qNc_ptr, qNc_vptr, qNc_fn, qNot_bool, qExt_tup, qCallV_fn, qLss_int, qLeq_int, qGtr_int, qGeq_int, qEql_int, qNeq_int, qAdd_int, qSub_int, qMul_int, qConvI_int, qLenL_sl, qLenL_hsl, qLenS_str, foldO, min2_int, max2_int, qSame_refl, Nat.zero_add, List.getElem?_cons_zero, List.getElem?_cons_succ, List.nil_append, List.cons_append, List.append_nil, one_bool, one_int, one_str, one_nilp, one_ptr, one_sl, one_hsl, one_map, one_fn, List.length_cons, List.length_nil, List.set_cons_zero, List.set_cons_succ, Nat.reduceLT, Nat.reduceAdd, qG_un, qResN_val, qCallVN_fn, nx, c1, decide_false, c2, c1003, c1004, hw1, c1005, ix, c1006, e53, hat, decide_true]
            exact hkr [] _ _ _ _ _ _ _ _ _ _ _ _ _ _ _ _ _ _ _ _ rfl (by simpa using hU)
          · rw [if_neg hat] at hU
            obtain ⟨n, hn⟩ := Int.eq_ofNat_of_zero_le (a := Lib.indexByte escd d) (by omega)
            have hsm := (Lib.indexByte_some hn).1
            have hn8 : n < 8 := (List.getElem?_eq_some_iff.1 hsm).1
            have hda : d.toNat < 128 := by
              have : escd.all (fun c => decide (c.toNat < 128)) = true := by decide
              exact of_decide_eq_true (List.all_eq_true.1 this d (List.mem_of_getElem? hsm))
            rw [hn] at hU hat
            simp only [Int.toNat_natCast] at hU
            have e53' : ∀ H, EP3 53 [.str [34,92,47,98,102,110,114,116], .int .u8 (d.toNat : Int)] H = some (.val (.int .i64 (n : Int)) H) := fun H => by rw [e53 H]; exact congrArg (fun z => some (Res.val (.int .i64 z) H)) hn
            have ea : ∀ k : AV → Prop, qIx (.str [34,92,47,8,12,10,13,9]) (.int .i64 (n : Int)) k = k (.int .u8 (plain.getD n 0).toNat) := fun k => by
              have hh : n < plain.length := hn8
              refine qIx_str ?_ .i64 k
              show plain[n]? = some (plain.getD n 0)
              simp [List.getD, hh]
            obtain ⟨H4, w4, a4, v4, ew4, hb4, hf4, hg4⟩ := (wr51 b (plain.getD n 0)).go hb' (by simp; omega) hgl hne
            have ew4' := up ew4
            simp -implicitDefEqProofs only [l50_12, r50_7, r50_8, r50_14, r50_15, r50_17, r50_19, r50_21, r50_9, r50_10, r50_12, r50_13, opn_z, opn_s, sel_z, sel_s, qCd_eq, qIf_true, qIf_false, qFn_eq, qBl_eq, qO_some, qRes_val, qHp_some, qPick_true, qPick_false, qG_tt, qG_ff, qG_tf, qG_ft, cellsK_some, qLd_ptr, qLd_vptr, qLdA_ptr, qLdA_vptr, qFa_ptr, qFa_vptr, qNc_ptr, qNc_vptr, qNc_fn, qNot_bool, qExt_tup, qCallV_fn, qLss_int, qLeq_int, qGtr_int, qGeq_int, qEql_int, qNeq_int, qAdd_int, qSub_int, qMul_int, qConvI_int, qLenL_sl, qLenL_hsl, qLenS_str, foldO, min2_int, max2_int, qSame_refl, Nat.zero_add, List.getElem?_cons_zero, List.getElem?_cons_succ, List.nil_append, List.cons_append, List.append_nil, one_bool, one_int, one_str, one_nilp, one_ptr, one_sl, one_hsl, one_map, one_fn, List.length_cons, List.length_nil, List.set_cons_zero, List.set_cons_succ, Nat.reduceLT, Nat.reduceAdd, qG_un, qResN_val, qCallVN_fn, nx, c1, decide_false, c2, c1003, c1004, hw1, c1005, ix, c1006, e53', hat, ea, ew4', hw2]
            refine hkk (d :: l).length _ _ (by simp) ⟨d :: l, B ++ [plain.getD n 0], p + 1, p + 2, a4, v4, _, _, _, _, _, _, _, _, _, _, _, _, _, _, _, _, _, rfl, rfl, hf4, hg4, hb4, hvl, hl1, by omega, by omega, ?_, ?_, ?_⟩
            · intro j hj1 hj2 x hx
              obtain rfl : j = p + 1 := by omega
              rw [htd] at hx
              injection hx with hx
              subst hx
              exact hda
            · rw [show max (p + 1) (p + 2) = p + 2 by omega, hU, hl2, Option.map_map]
              congr 1
              funext x
              simp
            · simp; omega
    · -- a rune of several bytes
      rw [Lib.validD_step _ (by simp)] at hvl
      have hnv : ¬ ((Lib.decodeL (c :: l)).1 = 65533 ∧ (Lib.decodeL (c :: l)).2 = 1) := fun h => by rw [if_pos h] at hvl; cases hvl
      rw [if_neg hnv] at hvl
      obtain ⟨hr, hok⟩ := dec_hi hc hnv
      have henc := Lib.encode_decode (c :: l) (by simp) hnv
      have hw1 := Lib.decodeL_width (c :: l)
      have hw2 := Lib.decodeL_le (c :: l) (by simp)
      have hx := encR_hi hr hok
      have henc' : encR (Lib.decodeL (c :: l)).1 = (c :: l).take (Lib.decodeL (c :: l)).2 := henc
      have hpk : ¬ p < k := fun h => by have := hA p (Nat.le_refl _) h c htp; omega
      have c1 : ¬ (p : Int) < (k : Int) := by omega
      have hmx : max p k = p := by omega
      rw [hmx, ← hlt] at hU
      rw [hmx] at hB
      have hfl : unqF (c :: l) = (unqF ((c :: l).drop (Lib.decodeL (c :: l)).2)).map (encR (Lib.decodeL (c :: l)).1 ++ ·) := by
        conv => lhs; rw [← List.take_append_drop (Lib.decodeL (c :: l)).2 (c :: l)]
        rw [← henc', unqF_hi _ _ hx]
      rw [hfl] at hU
      have hlen : (encR (Lib.decodeL (c :: l)).1).length = (Lib.decodeL (c :: l)).2 := by
        rw [henc', List.length_take]; omega
      obtain ⟨H4, w4, a4, v4, e, hb4, hf4, hn4, hk4⟩ := wr54 b (Lib.decodeL (c :: l)).1 hok H'' B _ _ hb' (by omega)
      have e64 := up e
      have hg4 := hk4 i _ hne hg' (fun k cs e => by cases e)
      simp only [List.length_cons] at hw2
      have hdr : (c :: l).drop (Lib.decodeL (c :: l)).2 = t.drop (p + (Lib.decodeL (c :: l)).2) := by rw [hlt, List.drop_drop]
      generalize Lib.decodeL (c :: l) = d at *
      obtain ⟨r, wd⟩ := d
      simp only at *
      have c2 : ¬ (((r : Nat) : Int) < 32) := by omega
      have c1003 : (((r : Nat) : Int) == 34) = false := by simp; omega
      have c1004 : (!(((r : Nat) : Int) == 92)) = true := by simp; omega
      simp -implicitDefEqProofs only [l50_12, r50_7, r50_8, r50_14, r50_15, r50_17, r50_18, opn_z, opn_s, sel_z, sel_s, qCd_eq, qIf_true, qIf_false, qFn_eq, qBl_eq, qO_some, qRes_val, qHp_some, qPick_true, qPick_false, qG_tt, qG_ff, qG_tf, qG_ft, cellsK_some, qLd_ptr, qLd_vptr, qLdA_ptr, qLdA_vptr, qFa_ptr, qFa_vptr, qNc_ptr, qNc_vptr, qNc_fn, qNot_bool, qExt_tup, qCallV_fn, qLss_int, qLeq_int, qGtr_int, qGeq_int, qEql_int, qNeq_int, qAdd_int, qSub_int, qMul_int, qConvI_int, qLenL_sl, qLenL_hsl, qLenS_str, foldO, min2_int, max2_int, qSame_refl, Nat.zero_add, List.getElem?_cons_zero, List.getElem?_cons_succ, List.nil_append, List.cons_append, List.append_nil, one_bool, one_int, one_str, one_nilp, one_ptr, one_sl, one_hsl, one_map, one_fn, List.length_cons, List.length_nil, List.set_cons_zero, List.set_cons_succ, Nat.reduceLT, Nat.reduceAdd, qG_un, qResN_val, qCallVN_fn, nx, c1, decide_false, c2, c1003, c1004, e64]
      refine hkk ((c :: l).drop wd).length _ _ (by simp; omega) ⟨(c :: l).drop wd, B ++ encR r, p + wd, k, a4, v4, _, _, _, _, _, _, _, _, _, _, _, _, _, _, _, _, _, rfl, rfl, hf4, hg4, hb4, hvl, hdr, by omega, hk, fun j h1 h2 => hA j (by omega) h2, ?_, ?_⟩
      · rw [show max (p + wd) k = p + wd by omega, ← hdr, hU, Option.map_map]
        congr 1
        funext x
        simp
      · simp only [List.length_append]; omega
end T
set_option linter.unusedVariables false
set_option linter.unusedSimpArgs false
set_option maxRecDepth 10000
namespace T
open Go Go.Aes Go.Proofs

/-! ### Unquote, whole -/
theorem two_ends (s : Str) (h : ¬ s.length < 2) : ∃ a m z, s = a :: (m ++ [z]) := by
  cases s with
  | nil => simp at h
  | cons a r =>
    rcases List.eq_nil_or_concat r with rfl | ⟨l, x, rfl⟩
    · simp at h
    · exact ⟨a, l, x, by simp⟩

set_option maxHeartbeats 1000000 in
theorem unq_walk (s : Str) (hl : s.length < 1000000000) : c50 EP3 [.str s] H0 (fun v _ => v.kill = uqR (uqF s)) := by
  by_cases h2 : s.length < 2
  · have c1 : (s.length : Int) < 2 := by omega
    simp -implicitDefEqProofs only [c50, r50_0, r50_1, r50_2, opn_z, opn_s, sel_z, sel_s, qCd_eq, qIf_true, qIf_false, qFn_eq, qBl_eq, qO_some, qRes_val, qHp_some, qPick_true, qPick_false, qG_tt, qG_ff, qG_tf, qG_ft, cellsK_some, qLd_ptr, qLd_vptr, qLdA_ptr, qLdA_vptr, qFa_ptr, qFa_vptr, qNc_ptr, qNc_vptr, qNc_fn, qNot_bool, qExt_tup, qCallV_fn, qLss_int, qLeq_int, qGtr_int, qGeq_int, qEql_int, qNeq_int, qAdd_int, qSub_int, qMul_int, qConvI_int, qLenL_sl, qLenL_hsl, qLenS_str, foldO, min2_int, max2_int, qSame_refl, Nat.zero_add, List.getElem?_cons_zero, List.getElem?_cons_succ, List.nil_append, List.cons_append, List.append_nil, one_bool, one_int, one_str, one_nilp, one_ptr, one_sl, one_hsl, one_map, one_fn, List.length_cons, List.length_nil, List.set_cons_zero, List.set_cons_succ, Nat.reduceLT, Nat.reduceAdd, qG_un, qResN_val, qCallVN_fn, AV.kill, AV.kills, Tk.kill, c1, decide_true]
    simp [uqF, h2, uqR]
  have c1 : ¬ (s.length : Int) < 2 := by omega
  obtain ⟨a, m, z, hs⟩ := two_ends s h2
  have hlen : s.length = m.length + 2 := by rw [hs]; simp
  have hs0 : s[0]? = some a := by rw [hs]; rfl
  have hsz : s[m.length + 1]? = some z := by rw [hs]; simp
  have i0 : ∀ k : AV → Prop, qIx (.str s) (.int .i64 0) k = k (.int .u8 a.toNat) := fun k => qIx_at s 0 a hs0 k
  have hw : IntKind.i64.wrap ((s.length : Int) - 1) = ((m.length + 1 : Nat) : Int) := by rw [i64_in' (by omega)]; omega
  have iz := fun k => qIx_at s (m.length + 1) z hsz k
  have hno : ∀ h : s.head? ≠ some 34 ∨ s.getLast? ≠ some 34 ∨ Lib.validD s = false, uqF s = none := fun h => if_pos (.inr h)
  have ne34 : ∀ x : UInt8, (((x.toNat : Nat) : Int) == 34) = decide (x = 34) := fun x => by
    rw [Bool.eq_iff_iff, decide_eq_true_eq, beq_iff_eq, ← UInt8.toNat_inj]
    constructor
    · intro h; have : x.toNat = 34 := by omega
      exact this
    · intro h; have : x.toNat = 34 := h
      omega
  by_cases ha : a = 34
  case neg =>
    have c2 : (((a.toNat : Nat) : Int) == 34) = false := by rw [ne34, decide_eq_false ha]
    simp -implicitDefEqProofs only [c50, r50_0, r50_1, r50_2, opn_z, opn_s, sel_z, sel_s, qCd_eq, qIf_true, qIf_false, qFn_eq, qBl_eq, qO_some, qRes_val, qHp_some, qPick_true, qPick_false, qG_tt, qG_ff, qG_tf, qG_ft, cellsK_some, qLd_ptr, qLd_vptr, qLdA_ptr, qLdA_vptr, qFa_ptr, qFa_vptr, qNc_ptr, qNc_vptr, qNc_fn, qNot_bool, qExt_tup, qCallV_fn, qLss_int, qLeq_int, qGtr_int, qGeq_int, qEql_int, qNeq_int, qAdd_int, qSub_int, qMul_int, qConvI_int, qLenL_sl, qLenL_hsl, qLenS_str, foldO, min2_int, max2_int, qSame_refl, Nat.zero_add, List.getElem?_cons_zero, List.getElem?_cons_succ, List.nil_append, List.cons_append, List.append_nil, one_bool, one_int, one_str, one_nilp, one_ptr, one_sl, one_hsl, one_map, one_fn, List.length_cons, List.length_nil, List.set_cons_zero, List.set_cons_succ, Nat.reduceLT, Nat.reduceAdd, qG_un, qResN_val, qCallVN_fn, AV.kill, AV.kills, Tk.kill, c1, decide_false, i0, c2, Bool.not_false]
    rw [hno (.inl (by rw [hs]; simpa using ha))]
    rfl
  have c2 : (((a.toNat : Nat) : Int) == 34) = true := by rw [ne34, decide_eq_true ha]
  by_cases hz : z = 34
  case neg =>
    have c1003 : (((z.toNat : Nat) : Int) == 34) = false := by rw [ne34, decide_eq_false hz]
    simp -implicitDefEqProofs only [c50, r50_0, r50_1, r50_2, opn_z, opn_s, sel_z, sel_s, qCd_eq, qIf_true, qIf_false, qFn_eq, qBl_eq, qO_some, qRes_val, qHp_some, qPick_true, qPick_false, qG_tt, qG_ff, qG_tf, qG_ft, cellsK_some, qLd_ptr, qLd_vptr, qLdA_ptr, qLdA_vptr, qFa_ptr, qFa_vptr, qNc_ptr, qNc_vptr, qNc_fn, qNot_bool, qExt_tup, qCallV_fn, qLss_int, qLeq_int, qGtr_int, qGeq_int, qEql_int, qNeq_int, qAdd_int, qSub_int, qMul_int, qConvI_int, qLenL_sl, qLenL_hsl, qLenS_str, foldO, min2_int, max2_int, qSame_refl, Nat.zero_add, List.getElem?_cons_zero, List.getElem?_cons_succ, List.nil_append, List.cons_append, List.append_nil, one_bool, one_int, one_str, one_nilp, one_ptr, one_sl, one_hsl, one_map, one_fn, List.length_cons, List.length_nil, List.set_cons_zero, List.set_cons_succ, Nat.reduceLT, Nat.reduceAdd, qG_un, qResN_val, qCallVN_fn, AV.kill, AV.kills, Tk.kill, c1, decide_false, i0, c2, Bool.not_true, hw, iz, c1003, Bool.not_false]
    rw [hno (.inr (.inl (by rw [hs, ← List.cons_append, List.getLast?_concat]; simpa using hz)))]
    rfl
  have c1003 : (((z.toNat : Nat) : Int) == 34) = true := by rw [ne34, decide_eq_true hz]
  have e63 := fun H => up (ep30 s (by omega) H)
  cases hv : Lib.validD s with
  | false =>
    rw [hv] at e63
    simp -implicitDefEqProofs only [c50, r50_0, r50_1, r50_2, opn_z, opn_s, sel_z, sel_s, qCd_eq, qIf_true, qIf_false, qFn_eq, qBl_eq, qO_some, qRes_val, qHp_some, qPick_true, qPick_false, qG_tt, qG_ff, qG_tf, qG_ft, cellsK_some, qLd_ptr, qLd_vptr, qLdA_ptr, qLdA_vptr, qFa_ptr, qFa_vptr, qNc_ptr, qNc_vptr, qNc_fn, qNot_bool, qExt_tup, qCallV_fn, qLss_int, qLeq_int, qGtr_int, qGeq_int, qEql_int, qNeq_int, qAdd_int, qSub_int, qMul_int, qConvI_int, qLenL_sl, qLenL_hsl, qLenS_str, foldO, min2_int, max2_int, qSame_refl, Nat.zero_add, List.getElem?_cons_zero, List.getElem?_cons_succ, List.nil_append, List.cons_append, List.append_nil, one_bool, one_int, one_str, one_nilp, one_ptr, one_sl, one_hsl, one_map, one_fn, List.length_cons, List.length_nil, List.set_cons_zero, List.set_cons_succ, Nat.reduceLT, Nat.reduceAdd, qG_un, qResN_val, qCallVN_fn, AV.kill, AV.kills, Tk.kill, c1, decide_false, i0, c2, Bool.not_true, hw, iz, c1003, e63, Bool.not_false]
    rw [hno (.inr (.inr hv))]
    rfl
  | true =>
    rw [hv] at e63
    subst ha; subst hz
    have hvm : Lib.validD m = true := by
      cases hx : Lib.validD m with
      | true => rfl
      | false =>
        have hh : Lib.validD [34] = true := by decide
        have := validD_bad (valid_halt hh) _ m (Nat.le_refl _) hx
        rw [hs, Lib.validD_cons _ _ (by decide), this] at hv
        cases hv
    have hU : uqF s = unqF m := by rw [hs, uqF_mid, hvm]; rfl
    have sl : ∀ k : AV → Prop, qSlc Tryd.t9.desc 0 (.str s) (some (.int .i64 1)) (some (.int .i64 ((m.length + 1 : Nat) : Int))) none k = k (.str m) := fun k => by
      have := slcS_mid s 1 (m.length + 1) (by omega) (by omega) k
      rw [show (s.take (m.length + 1)).drop 1 = m by rw [hs]; simp] at this
      exact this
    have nb : ∀ k : AV → AH → Prop, qNew (.obj 93 0 z93) .ptr H0 k = k (.ptr H0.nx 0) (H0.push (.obj 93 0 [.nilp, .sl [] .nil])) := fun k => by rw [qNew_i]; rfl
    have hb0 : Bd (H0.push (.obj 93 0 [.nilp, .sl [] .nil])) H0.nx [] .nilp (.sl [] .nil) := ⟨get_push_at _, .inl rfl, .inl ⟨rfl, rfl⟩⟩
    have hif : IsFn (H0.push (.obj 93 0 [.nilp, .sl [] .nil])) := inferInstance
    simp -implicitDefEqProofs only [c50, r50_0, r50_1, r50_3, r50_4, r50_5, opn_z, opn_s, sel_z, sel_s, qCd_eq, qIf_true, qIf_false, qFn_eq, qBl_eq, qO_some, qRes_val, qHp_some, qPick_true, qPick_false, qG_tt, qG_ff, qG_tf, qG_ft, cellsK_some, qLd_ptr, qLd_vptr, qLdA_ptr, qLdA_vptr, qFa_ptr, qFa_vptr, qNc_ptr, qNc_vptr, qNc_fn, qNot_bool, qExt_tup, qCallV_fn, qLss_int, qLeq_int, qGtr_int, qGeq_int, qEql_int, qNeq_int, qAdd_int, qSub_int, qMul_int, qConvI_int, qLenL_sl, qLenL_hsl, qLenS_str, foldO, min2_int, max2_int, qSame_refl, Nat.zero_add, List.getElem?_cons_zero, List.getElem?_cons_succ, List.nil_append, List.cons_append, List.append_nil, one_bool, one_int, one_str, one_nilp, one_ptr, one_sl, one_hsl, one_map, one_fn, List.length_cons, List.length_nil, List.set_cons_zero, List.set_cons_succ, Nat.reduceLT, Nat.reduceAdd, qG_un, qResN_val, qCallVN_fn, c1, decide_false, i0, c2, Bool.not_true, hw, iz, c1003, e63, sl, nb]
    generalize H0.nx = b at *
    generalize H0.push (.obj 93 0 [.nilp, .sl [] .nil]) = H1 at *
    have rg := fun k => range_i (H := H1) m k
    have hgi := get_push_at (H := H1) (.iter m 0)
    have hb3 : Bd (H1.push (.iter m 0)) b [] .nilp (.sl [] .nil) := ⟨by rw [get_push_lt _ (lt_i hb0.get)]; exact hb0.get, hb0.own, hb0.row.keep fun j cs hj => by rw [get_push_lt _ (lt_i hj)]; exact hj⟩
    have hne : H1.nx ≠ b := by have := lt_i hb0.get; omega
    have hif3 : IsFn (H1.push (.iter m 0)) := inferInstance
    simp -implicitDefEqProofs only [r50_6, opn_z, opn_s, sel_z, sel_s, qCd_eq, qIf_true, qIf_false, qFn_eq, qBl_eq, qO_some, qRes_val, qHp_some, qPick_true, qPick_false, qG_tt, qG_ff, qG_tf, qG_ft, cellsK_some, qLd_ptr, qLd_vptr, qLdA_ptr, qLdA_vptr, qFa_ptr, qFa_vptr, qNc_ptr, qNc_vptr, qNc_fn, qNot_bool, qExt_tup, qCallV_fn, qLss_int, qLeq_int, qGtr_int, qGeq_int, qEql_int, qNeq_int, qAdd_int, qSub_int, qMul_int, qConvI_int, qLenL_sl, qLenL_hsl, qLenS_str, foldO, min2_int, max2_int, qSame_refl, Nat.zero_add, List.getElem?_cons_zero, List.getElem?_cons_succ, List.nil_append, List.cons_append, List.append_nil, one_bool, one_int, one_str, one_nilp, one_ptr, one_sl, one_hsl, one_map, one_fn, List.length_cons, List.length_nil, List.set_cons_zero, List.set_cons_succ, Nat.reduceLT, Nat.reduceAdd, qG_un, qResN_val, qCallVN_fn, rg]
    generalize H1.nx = i at *
    generalize H1.push (.iter m 0) = H3 at *
    rw [hU]
    refine unq_loop m (by omega) hvm b i hne H3 hif3 _ _ hb3 hgi _ ?_ ?_ _ _ _ _ _ _ _ _ _ _ _ _ _ _ _ _ _
    · rintro o x0 x4 x5 x6 x7 x8 x9 x10 x31 x38 x39 x40 x49 x55 x59 x66 x71 x77 x92 H _ hn
      rw [hn]
      rfl
    · rintro o x0 x2 x3 x5 x6 x7 x8 x9 x10 x31 x38 x39 x40 x49 x55 x59 x66 x71 x77 x92 H hfn hn hol ⟨a, v, hb⟩
      obtain ⟨H5, e67, _, _, _⟩ := ep48 hb (by omega)
      have e67' := up e67
      simp -implicitDefEqProofs only [r50_27, opn_z, opn_s, sel_z, sel_s, qCd_eq, qIf_true, qIf_false, qFn_eq, qBl_eq, qO_some, qRes_val, qHp_some, qPick_true, qPick_false, qG_tt, qG_ff, qG_tf, qG_ft, cellsK_some, qLd_ptr, qLd_vptr, qLdA_ptr, qLdA_vptr, qFa_ptr, qFa_vptr, qNc_ptr, qNc_vptr, qNc_fn, qNot_bool, qExt_tup, qCallV_fn, qLss_int, qLeq_int, qGtr_int, qGeq_int, qEql_int, qNeq_int, qAdd_int, qSub_int, qMul_int, qConvI_int, qLenL_sl, qLenL_hsl, qLenS_str, foldO, min2_int, max2_int, qSame_refl, Nat.zero_add, List.getElem?_cons_zero, List.getElem?_cons_succ, List.nil_append, List.cons_append, List.append_nil, one_bool, one_int, one_str, one_nilp, one_ptr, one_sl, one_hsl, one_map, one_fn, List.length_cons, List.length_nil, List.set_cons_zero, List.set_cons_succ, Nat.reduceLT, Nat.reduceAdd, qG_un, qResN_val, qCallVN_fn, AV.kill, AV.kills, Tk.kill, e67']
      rw [hn]
      rfl
theorem ep31 (s : Str) (hl : s.length < 1000000000) (H : AH) : EP3 50 [.str s] H = some (.val (uqR (uqF s)) H) := by
  refine uo_form (X := X) (D := OD2) (O := OF3) (S := PS) (al := [.str s]) e50 xf50 rfl rfl rfl ?_ (unq_walk s hl) H
  cases uqF s <;> rfl

/-! ### what is quoted is unquoted -/
def flat (s : Str) : Str := s.flatMap escB
theorem escK : ∀ x : Fin 128, (escB (UInt8.ofNat x.val) = [UInt8.ofNat x.val] ∧ 32 ≤ x.val ∧ x.val ≠ 34 ∧ x.val ≠ 92) ∨
    (escB (UInt8.ofNat x.val) = [92, (escB (UInt8.ofNat x.val)).getD 1 0] ∧ (escB (UInt8.ofNat x.val)).getD 1 0 ≠ 117 ∧ 0 ≤ Lib.indexByte escd ((escB (UInt8.ofNat x.val)).getD 1 0) ∧
      plain.getD (Lib.indexByte escd ((escB (UInt8.ofNat x.val)).getD 1 0)).toNat 0 = UInt8.ofNat x.val) ∨
    (escB (UInt8.ofNat x.val) = [92, 117, 48, 48, (escB (UInt8.ofNat x.val)).getD 4 0, (escB (UInt8.ofNat x.val)).getD 5 0] ∧ hexN [48, 48, (escB (UInt8.ofNat x.val)).getD 4 0, (escB (UInt8.ofNat x.val)).getD 5 0] 0 = some x.val) := by decide +kernel
theorem pointF_four {a b c d : UInt8} {y : Str} {v : Nat} (h : hexN [a, b, c, d] 0 = some v) (hv : v < 55296) : pointF (a :: b :: c :: d :: y) = some (v, 4) := by
  have : fourF (a :: b :: c :: d :: y) = some v := by
    unfold fourF
    rw [if_neg (by simp)]
    exact h
  simp [pointF, this, hv]
theorem unqF_esc (c : UInt8) (y : Str) : unqF (escB c ++ y) = (unqF y).map (c :: ·) := by
  rcases Nat.lt_or_ge c.toNat 128 with hc | hc
  · have h := escK ⟨c.toNat, hc⟩
    have hcc : UInt8.ofNat c.toNat = c := by simp
    simp only [hcc] at h
    rcases h with ⟨h1, h2, h3, h4⟩ | ⟨h1, h2, h3, h4⟩ | ⟨h1, h2⟩
    · rw [h1, List.cons_append, List.nil_append, unqF_cons, if_neg, if_pos]
      · rintro rfl; exact h4 rfl
      · rintro (h | rfl)
        · omega
        · exact h3 rfl
    · rw [h1]
      generalize (escB c).getD 1 0 = e at *
      rw [List.cons_append, List.cons_append, List.nil_append, unqF_cons, if_neg (by decide), if_neg (by decide)]
      simp only
      rw [if_neg h2, if_neg (by omega), h4]
    · rw [h1]
      generalize (escB c).getD 4 0 = e at *
      generalize (escB c).getD 5 0 = f at *
      simp only [List.cons_append, List.nil_append]
      rw [unqF_cons, if_neg (by decide), if_neg (by decide)]
      simp only
      rw [if_pos trivial, pointF_four h2 (by omega)]
      simp only [List.drop_succ_cons, List.drop_zero, encR_asc c hc]
      rfl
  · rw [escB_hi hc]
    exact unqF_hi [c] y (by simpa using hc)
theorem unq_flat : ∀ s : Str, unqF (flat s) = some s
  | [] => rfl
  | c :: s => by
    show unqF (escB c ++ flat s) = _
    rw [unqF_esc, unq_flat s]
    rfl
theorem esc34 : ∀ x : Fin 128, ∀ i : Fin 6, (escB (UInt8.ofNat x.val))[i.val]? = some 34 → i.val = 1 ∧ (escB (UInt8.ofNat x.val))[0]? = some 92 := by decide +kernel
theorem flat_cut : ∀ (s m rest : Str), flat s = m ++ 34 :: rest → unqF m = none
  | [], m, rest, h => by cases m <;> simp [flat] at h
  | c :: s, m, rest, h => by
    have h' : escB c ++ flat s = m ++ 34 :: rest := h
    rcases List.append_eq_append_iff.1 h' with ⟨al, h1, h2⟩ | ⟨bs, h1, h2⟩
    · rw [h1, unqF_esc, flat_cut s al rest h2]
      rfl
    · cases bs with
      | nil =>
        rw [List.append_nil] at h1
        have h3 := flat_cut s [] rest h2.symm
        rw [show unqF [] = some [] from rfl] at h3
        cases h3
      | cons x bs =>
        simp only [List.cons_append, List.cons.injEq] at h2
        obtain ⟨rfl, _⟩ := h2
        have hi : (escB c)[m.length]? = some 34 := by rw [h1]; simp
        rcases Nat.lt_or_ge c.toNat 128 with hc | hc
        · have hl := (List.getElem?_eq_some_iff.1 hi).1
          have h6 := escB_len c
          have := esc34 ⟨c.toNat, hc⟩ ⟨m.length, by omega⟩
          have hcc : UInt8.ofNat c.toNat = c := by simp
          simp only [hcc] at this
          obtain ⟨h3, h4⟩ := this hi
          rw [h1] at h4
          match m, h3 with
          | [y], _ =>
            simp only [List.cons_append, List.getElem?_cons_zero, Option.some.injEq] at h4
            subst h4
            rfl
        · rw [escB_hi hc] at hi
          have hm : (34 : UInt8) ∈ [c] := List.mem_of_getElem? hi
          obtain rfl := List.mem_singleton.1 hm
          exact absurd hc (by decide)
theorem quote_eq {s : Str} (hv : Lib.validD s = true) : quoteF s = 34 :: (flat s ++ [34]) := by simp [quoteF, hv, flat]
theorem cut_none {s : Str} (hv : Lib.validD s = true) {k : Nat} (hk : k < (flat s).length + 1) : uqF ((quoteF s).take k) = none := by
  rw [quote_eq hv]
  cases k with
  | zero => rfl
  | succ k =>
    rw [List.take_succ_cons, List.take_append_of_le_length (by omega)]
    by_cases hl : (flat s).take k = []
    · rw [hl]; rfl
    · rcases List.eq_nil_or_concat ((flat s).take k) with h | ⟨m, z, h⟩
      · exact absurd h hl
      · by_cases hz : z = 34
        · subst hz
          have h' : (flat s).take k = m ++ [34] := by simpa using h
          have hf : flat s = m ++ 34 :: (flat s).drop k := by
            conv => lhs; rw [← List.take_append_drop k (flat s), h']
            simp
          rw [h', uqF_mid, flat_cut s m _ hf]
          simp
        · refine if_pos (.inr (.inr (.inl ?_)))
          rw [h, List.concat_eq_append, ← List.cons_append, List.getLast?_concat]
          simpa using hz
theorem asc_valid : ∀ (p y : Str), (∀ c ∈ p, c.toNat < 128) → Lib.validD (p ++ y) = Lib.validD y
  | [], y, _ => rfl
  | c :: p, y, h => by rw [List.cons_append, Lib.validD_cons _ _ (h c (by simp)), asc_valid p y (fun d hd => h d (by simp [hd]))]
theorem escA : ∀ x : Fin 128, (escB (UInt8.ofNat x.val)).all (fun c => decide (c.toNat < 128)) = true := by decide +kernel
theorem escB_asc {c : UInt8} (h : c.toNat < 128) : ∀ d ∈ escB c, d.toNat < 128 := by
  intro d hd
  have := escA ⟨c.toNat, h⟩
  have hcc : UInt8.ofNat c.toNat = c := by simp
  simp only [hcc] at this
  exact of_decide_eq_true (List.all_eq_true.1 this d hd)
theorem flat_valid : ∀ (n : Nat) (s : Str), s.length ≤ n → Lib.validD s = true → Lib.validD (flat s) = true
  | _, [], _, _ => rfl
  | 0, c :: s, hl, _ => by simp at hl
  | n + 1, c :: s, hl, hv => by
    simp only [List.length_cons] at hl
    rcases Nat.lt_or_ge c.toNat 128 with hc | hc
    · show Lib.validD (escB c ++ flat s) = true
      rw [asc_valid _ _ (escB_asc hc)]
      rw [Lib.validD_cons _ _ hc] at hv
      exact flat_valid n s (by omega) hv
    · rw [vstep _ (List.cons_ne_nil c s)] at hv
      by_cases hb : Bad (c :: s)
      · rw [if_pos hb] at hv; cases hv
      rw [if_neg hb] at hv
      have hw := Lib.decodeL_width (c :: s)
      have hle := Lib.decodeL_le (c :: s) (by simp)
      have hb' : ¬ ((Lib.decodeL (c :: s)).1 = 65533 ∧ (Lib.decodeL (c :: s)).2 = 1) := hb
      obtain ⟨hr, hok⟩ := dec_hi hc hb'
      have henc : encR (Lib.decodeL (c :: s)).1 = (c :: s).take (Lib.decodeL (c :: s)).2 := Lib.encode_decode (c :: s) (by simp) hb'
      have hx := encR_hi hr hok
      rw [henc] at hx
      simp only [List.length_cons] at hle
      have hne : (c :: s).take (Lib.decodeL (c :: s)).2 ≠ [] := by
        intro e
        have := congrArg List.length e
        rw [List.length_take] at this
        simp at this
        omega
      have hnb : ¬ Bad ((c :: s).take (Lib.decodeL (c :: s)).2) := fun h => by
        have := dec_bad hne h (valid_halt hv)
        rw [List.take_append_drop] at this
        exact hb this
      have hde := dec_app ((c :: s).drop (Lib.decodeL (c :: s)).2) hne hnb
      rw [List.take_append_drop] at hde
      have hfl : flat (c :: s) = (c :: s).take (Lib.decodeL (c :: s)).2 ++ flat ((c :: s).drop (Lib.decodeL (c :: s)).2) := by
        conv => lhs; rw [← List.take_append_drop (Lib.decodeL (c :: s)).2 (c :: s)]
        unfold flat
        rw [List.flatMap_append, flat_hi hx]
      have hde2 := dec_app (flat ((c :: s).drop (Lib.decodeL (c :: s)).2)) hne hnb
      have hnb2 : ¬ Bad (flat (c :: s)) := by rw [hfl]; unfold Bad; rw [hde2]; exact hnb
      rw [vstep _ (by rw [hfl]; simp [hne]), if_neg hnb2, hfl, hde2, ← hde]
      have hlt : ((c :: s).take (Lib.decodeL (c :: s)).2).length = (Lib.decodeL (c :: s)).2 := by rw [List.length_take]; simp; omega
      rw [List.drop_append_of_le_length (by omega), List.drop_of_length_le (by omega), List.nil_append]
      exact flat_valid n _ (by rw [List.length_drop]; simp; omega) hv
theorem unq_quote {s : Str} (hv : Lib.validD s = true) : uqF (quoteF s) = some s := by
  rw [quote_eq hv, uqF_mid, flat_valid _ s (Nat.le_refl _) hv, unq_flat]
  rfl
theorem flat_len (s : Str) : (flat s).length ≤ 6 * s.length := by
  induction s with
  | nil => simp [flat]
  | cons c s ih =>
    have h := escB_len c
    have : flat (c :: s) = escB c ++ flat s := rfl
    rw [this, List.length_append, List.length_cons]
    omega

end T
