import Derived.Test.YtpndehigidcchaaGreatDoorLitRd
import Derived.Test.YtpndehigidcchaaGreatDoorS17
import Derived.Test.YtpndehigidcchaaGreatDoorOrC
set_option linter.all false
set_option linter.unusedVariables false
set_option linter.unusedSimpArgs false
set_option maxRecDepth 10000
namespace T
open Go Go.Aes Go.Proofs
def PS (g : Nat) : Bool := [8, 14, 23, 24, 25, 26, 27, 40, 41, 42, 56, 57, 58, 74, 75, 76, 77, 5, 9, 11, 12, 13, 15, 16, 17, 18, 19, 20, 21, 22, 29, 30, 31, 32, 34, 36, 38, 39, 43, 44, 45, 47, 48, 49, 50, 51, 52, 53, 55, 59, 60, 62, 65, 66, 68, 69, 72, 85, 86, 89].contains g
noncomputable abbrev EP : CallF := evO X OD2 OF2 PS
abbrev Str := List UInt8
theorem slcS_lo (s : Str) (a : Nat) (h : a ≤ s.length) (k : AV → Prop) : qSlc Tryz.t9.desc 0 (.str s) (some (.int .i64 (a : Int))) none none k = k (.str (s.drop a)) := by
  have hb : bnd (some (.int .i64 (a : Int))) 0 s.length = some a := by
    have : a.ble s.length = true := by simpa using h
    simp [bnd, asN, this]
  have : sliceD Tryz.t9.desc 0 (.str s) (some (.int .i64 (a : Int))) none none = some (.str (s.drop a)) := by
    show (match bnd none s.length s.length with
      | none => none
      | some h => match bnd (some (.int .i64 (a : Int))) 0 h with
        | none => none
        | some l => some (AV.str ((s.take h).drop l))) = _
    simp only [bnd] at hb ⊢
    rw [hb]
    simp
  unfold qSlc
  rw [this, qO_some]
theorem slcS_1 (b : UInt8) (s : Str) (k : AV → Prop) : qSlc Tryz.t9.desc 0 (.str (b :: s)) (some (.int .i64 1)) none none k = k (.str s) := slcS_lo (b :: s) 1 (by simp) k
theorem slcS_hi (s : Str) (a : Nat) (h : a ≤ s.length) (k : AV → Prop) : qSlc Tryz.t9.desc 0 (.str s) none (some (.int .i64 (a : Int))) none k = k (.str (s.take a)) := by
  have hb : bnd (some (.int .i64 (a : Int))) s.length s.length = some a := by
    have : a.ble s.length = true := by simpa using h
    simp [bnd, asN, this]
  have : sliceD Tryz.t9.desc 0 (.str s) none (some (.int .i64 (a : Int))) none = some (.str (s.take a)) := by
    show (match bnd (some (.int .i64 (a : Int))) s.length s.length with
      | none => none
      | some h => match bnd none 0 h with
        | none => none
        | some l => some (AV.str ((s.take h).drop l))) = _
    rw [hb]
    simp [bnd]
  unfold qSlc
  rw [this, qO_some]
theorem slcS_mid (s : Str) (a b : Nat) (h : a ≤ b) (hb : b ≤ s.length) (k : AV → Prop) : qSlc Tryz.t9.desc 0 (.str s) (some (.int .i64 (a : Int))) (some (.int .i64 (b : Int))) none k = k (.str ((s.take b).drop a)) := by
  have h1 : bnd (some (.int .i64 (b : Int))) s.length s.length = some b := by
    have : b.ble s.length = true := by simpa using hb
    simp [bnd, asN, this]
  have h2 : bnd (some (.int .i64 (a : Int))) 0 b = some a := by
    have : a.ble b = true := by simpa using h
    simp [bnd, asN, this]
  have : sliceD Tryz.t9.desc 0 (.str s) (some (.int .i64 (a : Int))) (some (.int .i64 (b : Int))) none = some (.str ((s.take b).drop a)) := by
    show (match bnd (some (.int .i64 (b : Int))) s.length s.length with
      | none => none
      | some h => match bnd (some (.int .i64 (a : Int))) 0 h with
        | none => none
        | some l => some (AV.str ((s.take h).drop l))) = _
    rw [h1]
    simp only [h2]
  unfold qSlc
  rw [this, qO_some]
theorem u8_eq (a b : UInt8) : ((a.toNat : Int) == (b.toNat : Int)) = decide (a = b) := by
  rw [Bool.eq_iff_iff]
  simp only [beq_iff_eq, decide_eq_true_eq]
  constructor
  · intro h; exact UInt8.toNat_inj.1 (by omega)
  · rintro rfl; rfl
def hp (s p : Str) : Bool := decide (s.take p.length = p)
theorem hp_nil (s : Str) : hp s [] = true := by simp [hp]
theorem hp_cons (a b : UInt8) (s p : Str) : hp (a :: s) (b :: p) = (decide (a = b) && hp s p) := by
  rw [Bool.eq_iff_iff]; simp [hp]
theorem hp_one (a c : UInt8) (s : Str) : hp (a :: s) [c] = decide (a = c) := by rw [hp_cons, hp_nil, Bool.and_true]
theorem ep88 (s p : Str) (H : AH) : EP 32 [.str s, .str p] H = some (.val (.bool (hp s p)) H) := by
  refine uo_form e32 xf32 rfl rfl rfl rfl ?_ H
  simp only [AV.kills, AV.kill]
  by_cases h : ((p.length : Nat) : Int) ≤ ((s.length : Nat) : Int)
  · have h1 : p.length ≤ s.length := by omega
    simp only [c32, r32_0, r32_1, opn_z, opn_s, sel_z, sel_s, qFn_eq, qPick_true, qG_tt, qGeq_int, qLenS_str, AV.kill, h, decide_true, slcS_hi _ _ h1, qEql_str]
    rfl
  · have h2 : s.take p.length ≠ p := by
      intro e
      have := congrArg List.length e
      simp at this
      omega
    simp only [c32, r32_0, r32_1, opn_z, opn_s, sel_z, sel_s, qFn_eq, qPick_false, qG_ft, qGeq_int, qLenS_str, AV.kill, h, decide_false]
    simp [hp, h2]
theorem ep82 (s p : Str) (H : AH) : EP 20 [.str s, .str p] H = some (.val (.bool (hp s p)) H) := by
  refine uo_form e20 xf20 rfl rfl rfl rfl ?_ H
  simp only [AV.kills, AV.kill, c20, r20_0, r20_1, opn_z, opn_s, sel_z, sel_s, qFn_eq, qRes_val, AV.kill, AV.kills, ep88]
def cutP (s p : Str) : Str := if hp s p then s.drop p.length else s
theorem hp_le {s p : Str} (h : hp s p = true) : p.length ≤ s.length := by
  have := congrArg List.length (of_decide_eq_true h)
  simp at this
  omega
theorem cutP_1 (a : UInt8) (s : Str) : cutP (a :: s) [a] = s := by simp [cutP, hp_one]
theorem ep69 (s p : Str) (H : AH) : EP 43 [.str s, .str p] H = some (.val (.str (cutP s p)) H) := by
  refine uo_form e43 xf43 rfl rfl rfl rfl ?_ H
  simp only [AV.kills, AV.kill]
  cases h : hp s p with
  | true => simp only [c43, r43_0, r43_1, r43_2, opn_z, opn_s, sel_z, sel_s, qCd_eq, qIf_true, qFn_eq, qRes_val, qLenS_str, AV.kill, ep88, h, slcS_lo _ _ (hp_le h), cutP, if_true]
  | false => simp only [c43, r43_0, r43_1, r43_3, opn_z, opn_s, sel_z, sel_s, qCd_eq, qIf_false, qFn_eq, qRes_val, AV.kill, ep88, h, cutP, Bool.false_eq_true, if_false]
theorem ep40 (s p : Str) (H : AH) : EP 29 [.str s, .str p] H = some (.val (.str (cutP s p)) H) := by
  refine uo_form e29 xf29 rfl rfl rfl rfl ?_ H
  simp only [AV.kills, AV.kill, c29, r29_0, r29_1, opn_z, opn_s, sel_z, sel_s, qFn_eq, qRes_val, AV.kill, AV.kills, ep69]
theorem ep71 (s p : Str) (H : AH) : EP 45 [.str s, .str p] H = some (.val (.tup [.str (cutP s p), .bool (hp s p)]) H) := by
  refine uo_form e45 xf45 rfl rfl rfl rfl ?_ H
  simp only [AV.kills, AV.kill]
  cases h : hp s p with
  | true => simp only [c45, r45_0, r45_1, r45_3, opn_z, opn_s, sel_z, sel_s, qCd_eq, qIf_false, qFn_eq, qRes_val, qNot_bool, qLenS_str, AV.kill, AV.kills, ep88, h, Bool.not_true, slcS_lo _ _ (hp_le h), cutP, if_true]
  | false => simp only [c45, r45_0, r45_1, r45_2, opn_z, opn_s, sel_z, sel_s, qCd_eq, qIf_true, qFn_eq, qRes_val, qNot_bool, AV.kill, AV.kills, ep88, h, Bool.not_false, cutP, Bool.false_eq_true, if_false]
theorem ep42 (s p : Str) (H : AH) : EP 31 [.str s, .str p] H = some (.val (.tup [.str (cutP s p), .bool (hp s p)]) H) := by
  refine uo_form e31 xf31 rfl rfl rfl rfl ?_ H
  simp only [AV.kills, AV.kill, c31, r31_0, r31_1, opn_z, opn_s, sel_z, sel_s, qFn_eq, qO_some, qRes_val, qExt_tup, List.getElem?_cons_zero, List.getElem?_cons_succ, AV.kill, AV.kills, ep71]
def asS (p : Str) : List AV := (List.range 256).map fun c => .bool (p.any fun x => x.toNat == c)
theorem asS_len (p : Str) : (asS p).length = 256 := by simp [asS]
theorem z106_rep : z82 = List.replicate 256 (.bool false) := by kernel_rfl
theorem asS_nil : z82 = asS [] := by
  have : asS [] = List.replicate 256 (.bool false) := by
    apply List.ext_getElem?
    intro i
    simp only [asS, List.any_nil, List.getElem?_map, List.getElem?_replicate]
    by_cases h : i < 256
    · rw [List.getElem?_range h, if_pos h]; rfl
    · rw [List.getElem?_eq_none (by simpa using h), if_neg h]; rfl
  rw [this]
  exact z106_rep
theorem asS_get (p : Str) (c : UInt8) : (asS p)[c.toNat]? = some (.bool (p.contains c)) := by
  have hc : c.toNat < 256 := c.toNat_lt
  simp only [asS, List.getElem?_map, List.getElem?_range hc, Option.map_some, Option.some.injEq, AV.bool.injEq]
  rw [Bool.eq_iff_iff, List.any_eq_true, List.contains_iff_mem]
  constructor
  · rintro ⟨x, hx, h⟩
    have : x = c := UInt8.toNat_inj.1 (by simpa using h)
    rw [← this]; exact hx
  · intro h; exact ⟨c, h, by simp⟩
theorem asS_set (p : Str) (c : UInt8) : (asS p).set c.toNat (.bool true) = asS (p ++ [c]) := by
  apply List.ext_getElem?
  intro i
  simp only [asS, List.getElem?_set, List.getElem?_map, List.length_map, List.length_range]
  have hc : c.toNat < 256 := c.toNat_lt
  by_cases h : c.toNat = i
  · subst h
    rw [if_pos rfl, if_pos hc, List.getElem?_range hc]
    simp
  · rw [if_neg h]
    by_cases hi : i < 256
    · rw [List.getElem?_range hi]
      simp [h]
    · rw [List.getElem?_eq_none (by simpa using hi)]
      rfl
theorem asS_one (p : Str) : allOne (asS p) = true := by
  unfold allOne
  rw [List.all_eq_true]
  intro x hx
  obtain ⟨c, _, rfl⟩ := List.mem_map.1 hx
  rfl
theorem asS_free (p : Str) : AV.frees (AV.kills (asS p)) = true ∧ AV.kills (asS p) = asS p := by
  have h : AV.kills (asS p) = asS p := by
    rw [kills_map, asS, List.map_map]
    apply List.map_congr_left
    intro c _
    rfl
  refine ⟨?_, h⟩
  rw [h, frees_all]
  intro x hx
  obtain ⟨c, _, rfl⟩ := List.mem_map.1 hx
  rfl
theorem ep90 (p : Str) (hp : ∀ c ∈ p, c.toNat < 128) (hl : p.length < 1000000) (H : AH) : EP 60 [.str p] H = some (.val (.tup [.agg (asS p), .bool true]) H) := by
  have hfr := asS_free p
  refine uo_form e60 xf60 rfl rfl rfl (by have h := hfr.1; rw [hfr.2] at h; simp only [AV.free, AV.frees, h]; rfl) ?_ H
  simp only [AV.kills, AV.kill]
  simp -implicitDefEqProofs only [c60, r60_0, r60_1, opn_z, opn_s, qFn_eq, qBl_eq, AV.kill, AV.kills, qNew_i, wr_ptr]
  have hn : (H0.nx : Nat) = 0 := rfl
  rw [hn]
  refine loop_inv (fun m fr H => ∃ (i : Nat) (x5 x9 x16 : AV), m = p.length - i ∧ i ≤ p.length ∧ fr = [.str p, .ptr 0 0, .bool false, .int .i64 (i : Int), x5, x9, x16] ∧ IsFn H ∧ H.get 0 = some (.cells (asS (p.take i)))) ?_ (m := p.length) ?_
  · rintro m fr H k ⟨i, x5, x9, x16, rfl, hi, rfl, hfn, hg⟩ hk
    rcases Nat.lt_or_ge i p.length with h | h
    · have h' : (i : Int) < (p.length : Int) := by omega
      have ix := fun k => qIx_str (R := Prop) (List.getElem?_eq_getElem h) .i64 k
      have h1 := hp p[i] (List.getElem_mem h)
      have h2 : ¬ ((128 : Int) ≤ (p[i].toNat : Int)) := by omega
      have hc : p[i].toNat < 256 := p[i].toNat_lt
      have ia := fun k => qIaA_ptr (R := Prop) .u8 k 256 1 0 0 p[i].toNat hc
      have st := fun k => qSt_1 (R := Prop) (v := .bool true) hg (o := p[i].toNat * 1) (by rw [asS_len]; omega) rfl k
      have hw := wrap_up i (by omega)
      simp -implicitDefEqProofs only [l60_5, r60_2, r60_3, r60_4, r60_5, r60_7, opn_z, opn_s, sel_z, sel_s, qCd_eq, qIf_true, qIf_false, qBl_eq, qLss_int, qGeq_int, qAdd_int, qLenS_str, Nat.zero_add, h', decide_true, ix, h2, decide_false, ia, st, hw]
      refine hk (p.length - (i + 1)) _ _ (by omega) ⟨i + 1, _, _, _, rfl, h, rfl, inferInstance, ?_⟩
      have hlt := lt_i hg
      rw [get_set_i hlt, if_pos rfl, Nat.mul_one, asS_set, take_succ' (List.getElem?_eq_getElem h)]
    · have h' : ¬ (i : Int) < (p.length : Int) := by omega
      have hi' : i = p.length := by omega
      subst hi'
      rw [List.take_length] at hg
      have ld := fun k => qLdA_whole (R := Prop) hg (asS_len p) k
      have st := fun k => qSt_whole (R := Prop) hg (asS_len p) (asS_len p) (asS_one p) k
      have ld2 := fun k => qLdA_whole (R := Prop) (H := H.set 0 (some (.cells (asS p)))) (i := 0) (by rw [get_set_i (lt_i hg), if_pos rfl]) (asS_len p) k
      simp -implicitDefEqProofs only [l60_5, r60_2, r60_8, opn_z, opn_s, sel_z, sel_s, qCd_eq, qIf_false, qBl_eq, qLss_int, qLenS_str, h', decide_false, ld, st, qPtr_ptr, ld2]
      simp only [AV.kill, hfr.2]
  · exact ⟨0, _, _, _, rfl, by omega, rfl, inferInstance, by rw [List.take_zero, ← asS_nil]; exact get_push_at (H := H0) _⟩
theorem ep102 {H : AH} {i : Nat} {p : Str} (hg : H.get i = some (.cells (asS p))) (c : UInt8) : EP 70 [.ptr i 0, .int .u8 c.toNat] H = some (.val (.bool (p.contains c)) H) := by
  refine ao_form_eq e70 xf70 rfl rfl ?_
  have hc : c.toNat < 256 := c.toNat_lt
  have ia := fun k => qIaA_ptr (R := Prop) .u8 k 256 1 i 0 c.toNat hc
  have ld := fun k => ld1 (R := Prop) hg (c.toNat * 1) (.bool (p.contains c)) (by rw [Nat.mul_one]; exact asS_get p c) k
  simp -implicitDefEqProofs only [c70, r70_0, r70_1, opn_z, opn_s, sel_z, sel_s, qFn_eq, qNc_ptr, Nat.zero_add, ia, ld]
  exact ⟨trivial, trivial⟩
theorem ep91 {H : AH} {i : Nat} {p : Str} (hg : H.get i = some (.cells (asS p))) (s : Str) : EP 61 [.str s, .ptr i 0] H = some (.val (.str (s.dropWhile p.contains)) H) := by
  refine ao_form_eq e61 xf61 rfl rfl ?_
  simp -implicitDefEqProofs only [c61, r61_0, opn_z, opn_s, qFn_eq, qBl_eq]
  refine loop_inv (fun m fr H' => ∃ (t : Str) (x7 x12 : AV), m = t.length ∧ t.dropWhile p.contains = s.dropWhile p.contains ∧ fr = [.str t, .ptr i 0, .str [], x7, x12] ∧ H' = H) ?_ (m := s.length) ?_
  · rintro m fr H' k ⟨t, x7, x12, rfl, ht, rfl, rfl⟩ hk
    cases t with
    | nil =>
      have h0 : decide ((0 : Int) < ((0 : Nat) : Int)) = false := rfl
      simp -implicitDefEqProofs only [l61_5, r61_1, r61_4, opn_z, opn_s, sel_z, sel_s, qCd_eq, qIf_false, qBl_eq, qGtr_int, qLenS_str, List.length_nil, h0]
      rw [← ht]
      exact ⟨rfl, trivial⟩
    | cons c t =>
      have h' : (0 : Int) < ((t.length + 1 : Nat) : Int) := by omega
      have hc := ep102 hg c
      cases hb : p.contains c with
      | true =>
        rw [hb] at hc
        simp -implicitDefEqProofs only [l61_5, r61_1, r61_2, r61_3, opn_z, opn_s, sel_z, sel_s, qCd_eq, qIf_true, qIf_false, qBl_eq, qRes_val, qNot_bool, qGtr_int, qLenS_str, List.length_cons, h', decide_true, qIx_0, hc, Bool.not_true, slcS_1]
        refine hk t.length _ _ (by simp) ⟨t, _, _, rfl, ?_, rfl, rfl⟩
        rw [← ht, List.dropWhile_cons, hb]; rfl
      | false =>
        rw [hb] at hc
        simp -implicitDefEqProofs only [l61_5, r61_1, r61_2, r61_4, opn_z, opn_s, sel_z, sel_s, qCd_eq, qIf_true, qBl_eq, qRes_val, qNot_bool, qGtr_int, qLenS_str, List.length_cons, h', decide_true, qIx_0, hc, Bool.not_false]
        rw [← ht, List.dropWhile_cons, hb]
        exact ⟨rfl, trivial⟩
  · exact ⟨s, _, _, rfl, rfl, rfl, rfl⟩
theorem ep70 (s : Str) (a b : UInt8) (p : Str) (hp : ∀ c ∈ a :: b :: p, c.toNat < 128) (hl : p.length < 100000) (H : AH) : EP 44 [.str s, .str (a :: b :: p)] H = some (.val (.str (s.dropWhile (a :: b :: p).contains)) H) := by
  refine uo_form e44 xf44 rfl rfl rfl rfl ?_ H
  simp only [AV.kills, AV.kill]
  cases s with
  | nil =>
    simp -implicitDefEqProofs only [c44, r44_0, r44_1, r44_2, opn_z, opn_s, sel_z, sel_s, qCd_eq, qIf_true, qFn_eq, qPick_true, qG_tf, AV.kill, qEql_str, decide_true]
    rfl
  | cons c s =>
    have n1 : decide (c :: s = []) = false := by simp
    have n2 : decide (a :: b :: p = []) = false := by simp
    have n3 : (((p.length + 1 + 1 : Nat) : Int) == 1) = false := by simp; omega
    obtain ⟨q, Ha, Hb, x1, x2, x3, x4, x5, x6⟩ := boxK (R := Prop) (Hs := H0) (H := H0) (.refl _) z82 (asS (a :: b :: p)) (n := 256) (by rw [asS_nil, asS_len]) (asS_len _) (asS_one _)
    haveI := x5.fn
    simp -implicitDefEqProofs only [c44, r44_0, r44_1, r44_3, r44_5, r44_6, r44_7, opn_z, opn_s, sel_z, sel_s, qCd_eq, qIf_true, qIf_false, qFn_eq, qO_some, qRes_val, qPick_false, qG_ff, qG_ft, qExt_tup, qEql_int, qLenS_str, List.getElem?_cons_zero, List.getElem?_cons_succ, List.length_cons, AV.kill, qEql_str, n1, n2, n3, ep90 (a :: b :: p) hp (by simp; omega), x1, x2, ep91 x3]
def isD (c : UInt8) : Bool := decide (48 ≤ c.toNat) && decide (c.toNat ≤ 57)
def dg (s : Str) : Nat := (s.takeWhile isD).length
theorem digs (c : UInt8) : [48, 49, 50, 51, 52, 53, 54, 55, 56, 57].contains c = isD c := by
  rw [Bool.eq_iff_iff]
  simp only [List.contains_iff_mem, List.mem_cons, List.not_mem_nil, or_false, isD, Bool.and_eq_true, decide_eq_true_eq, ← UInt8.toNat_inj]
  have e : ∀ n : Nat, n < 256 → (UInt8.ofNat n).toNat = n := fun n h => by simp [UInt8.toNat_ofNat']; omega
  show (c.toNat = 48 ∨ c.toNat = 49 ∨ c.toNat = 50 ∨ c.toNat = 51 ∨ c.toNat = 52 ∨ c.toNat = 53 ∨ c.toNat = 54 ∨ c.toNat = 55 ∨ c.toNat = 56 ∨ c.toNat = 57) ↔ _
  omega
theorem dg_le (s : Str) : dg s ≤ s.length := by
  unfold dg
  induction s with
  | nil => simp
  | cons a s ih =>
    rw [List.takeWhile_cons]
    cases isD a <;> simp [ih]
theorem dg_drop (s : Str) : s.dropWhile isD = s.drop (dg s) := by
  unfold dg
  induction s with
  | nil => rfl
  | cons a s ih =>
    rw [List.dropWhile_cons, List.takeWhile_cons]
    cases isD a <;> simp [ih]
theorem ep41 (s : Str) (hl : s.length < 1000000000000) (H : AH) : EP 30 [.str s] H = some (.val (.int .i64 (dg s : Int)) H) := by
  refine uo_form e30 xf30 rfl rfl rfl rfl ?_ H
  simp only [AV.kills, AV.kill]
  have ht := fun H => ep70 s 48 49 [50, 51, 52, 53, 54, 55, 56, 57] (by decide) (by decide) H
  have hd : s.dropWhile [48, 49, 50, 51, 52, 53, 54, 55, 56, 57].contains = s.drop (dg s) := by
    rw [← dg_drop]
    congr 1
    funext c
    exact digs c
  rw [hd] at ht
  have hle := dg_le s
  have hw : IntKind.i64.wrap ((s.length : Int) - ((s.drop (dg s)).length : Int)) = (dg s : Int) := by
    rw [i64_in' (by simp; omega)]
    simp; omega
  simp -implicitDefEqProofs only [c30, r30_0, r30_1, opn_z, opn_s, sel_z, sel_s, qFn_eq, qRes_val, qSub_int, qLenS_str, AV.kill, ht, hw]
end T
set_option linter.unusedVariables false
set_option linter.unusedSimpArgs false
set_option maxRecDepth 10000
namespace T
open Go Go.Aes Go.Proofs
theorem ib_ge : ∀ (s : Str) (c : UInt8), -1 ≤ Lib.indexByte s c ∧ (0 ≤ Lib.indexByte s c ↔ s.contains c = true)
  | [], c => by simp [Lib.indexByte]
  | b :: l, c => by
    have ih := ib_ge l c
    simp only [Lib.indexByte, List.contains_cons, Bool.or_eq_true]
    by_cases h : b == c
    · have hc : (c == b) = true := by rw [beq_iff_eq] at h ⊢; exact h.symm
      rw [if_pos h]
      exact ⟨by omega, by simp [hc]⟩
    · have hc : (c == b) = false := by
        cases hx : c == b with
        | false => rfl
        | true => rw [beq_iff_eq] at hx; subst hx; simp at h
      rw [if_neg h, hc]
      simp only [Bool.false_eq_true, false_or]
      by_cases h2 : Lib.indexByte l c == -1
      · rw [if_pos h2]
        have h3 : Lib.indexByte l c = -1 := by simpa using h2
        have h4 : ¬ l.contains c = true := fun e => by have := ih.2.2 e; omega
        exact ⟨by omega, ⟨fun e => by omega, fun e => absurd e h4⟩⟩
      · rw [if_neg h2]
        have h3 : Lib.indexByte l c ≠ -1 := by simpa using h2
        have h5 : 0 ≤ Lib.indexByte l c := by have := ih.1; omega
        exact ⟨by omega, ⟨fun _ => ih.2.1 h5, fun _ => by omega⟩⟩
theorem ib_dec (s : Str) (c : UInt8) : decide ((0 : Int) ≤ Lib.indexByte s c) = s.contains c := by
  rw [Bool.eq_iff_iff, decide_eq_true_eq]
  exact (ib_ge s c).2
theorem ep43 (s : Str) (c : UInt8) (H : AH) : EP 10 [.str s, .int .u8 c.toNat] H = some (.val (.int .i64 (Lib.indexByte s c)) H) := by
  refine evO_O rfl ?_
  have hc : (((c.toNat : Nat) : Int)).toNat.toUInt8 = c := by simp
  have : OF2 10 [.str s, .int .u8 c.toNat] H = some (.val (.int .i64 (Lib.indexByte s (((c.toNat : Nat) : Int)).toNat.toUInt8)) H) := rfl
  rw [this, hc]
def fracN (s : Str) : Option Str :=
  match s with
  | c :: t => if c = 46 then (if dg t = 0 then none else some (t.drop (dg t))) else some s
  | [] => some []
def sgnN (t : Str) : Str :=
  match t with
  | d :: v => if [43, 45].contains d then v else t
  | [] => []
def expN (s : Str) : Option Str :=
  match s with
  | c :: t => if [101, 69].contains c then (if dg (sgnN t) = 0 then none else some ((sgnN t).drop (dg (sgnN t)))) else some s
  | [] => some []
def num (s : Str) : Bool × Bool :=
  if 40 < s.length then (false, false) else
  let s1 := cutP s [45]
  if dg s1 = 0 ∨ (1 < dg s1 ∧ s1.head? = some 48) then (false, false) else
  let s2 := s1.drop (dg s1)
  match fracN s2 with
  | none => (false, false)
  | some s3 => match expN s3 with
    | none => (false, false)
    | some s4 => (decide (s2 = []) && decide (s4 = []), decide (s4 = []))
theorem dec_nil_cons (c : UInt8) (s : Str) : decide (c :: s = []) = false := by simp
theorem tail15 (kr : KT Prop) (s3 : Str) (w : Bool) (hl : s3.length < 1000)
    (hk : ∀ (x0 x4 x5 x6 x7 x8 x11 x26 x37 x41 x52 x62 x68 : AV), kr [x0, .bool (match expN s3 with | none => false | some s4 => w && decide (s4 = [])), .bool (match expN s3 with | none => false | some s4 => decide (s4 = [])), x4, x5, x6, x7, x8, x11, x26, x37, x41, x52, x62, x68] H0) (x3 x4 x5 x6 x7 x8 x11 x26 x37 x41 x52 x62 x68 : AV) :
    (r19_15 EP (qCd (sel 12) (fun k1 => (r19_16 (r19_17 EP (qCd (sel 13) (fun k3 => (r19_18 k3)) (fun k3 => k3) (r19_19 EP (r19_20 (qCd (sel 14) (fun _ => (r19_21 kr)) (fun k2 => k2) (r19_22 k1)))))))) (fun k1 => k1) (r19_23 kr))) [.str s3, .bool w, x3, x4, x5, x6, x7, x8, x11, x26, x37, x41, x52, x62, x68] H0 := by
  have fin : ∀ (s4 : Str), expN s3 = some s4 → ∀ (x3 x4 x5 x6 x7 x8 x11 x26 x37 x41 x52 x62 x68 : AV), r19_23 kr [.str s4, .bool w, x3, x4, x5, x6, x7, x8, x11, x26, x37, x41, x52, x62, x68] H0 := by
    intro s4 h x3 x4 x5 x6 x7 x8 x11 x26 x37 x41 x52 x62 x68
    rw [h] at hk
    cases w with
    | true =>
      simp -implicitDefEqProofs only [r19_23, opn_z, opn_s, qPick_true, qG_tt, qEql_str]
      simpa using hk _ _ _ _ _ _ _ _ _ _ _ _ _
    | false =>
      simp -implicitDefEqProofs only [r19_23, opn_z, opn_s, qPick_false, qG_ft, qEql_str]
      simpa using hk _ _ _ _ _ _ _ _ _ _ _ _ _
  cases s3 with
  | nil =>
    simp -implicitDefEqProofs only [r19_15, opn_z, opn_s, sel_z, sel_s, qCd_eq, qNeq_str]
    apply fin [] rfl
    exact Aes.undef
  | cons c t =>
    cases he : ([101, 69] : Str).contains c with
    | false =>
      simp -implicitDefEqProofs only [r19_15, opn_z, opn_s, sel_z, sel_s, qCd_eq, qIf_false, qRes_val, qPick_true, qG_tt, qGeq_int, qNeq_str, dec_nil_cons, Bool.not_false, qIx_0, ep43, ib_dec, he]
      exact fin (c :: t) (by show (if _ = true then _ else _) = _; rw [he]; rfl) _ _ _ _ _ _ _ _ _ _ _ _ _
    | true =>
      have mid : ∀ (x3 x4 x5 x6 x7 x8 x11 x26 x37 x41 x52 x62 x68 : AV), (r19_19 EP (r19_20 (qCd (sel 14) (fun _ => (r19_21 kr)) (fun k2 => k2) (r19_22 (r19_23 kr))))) [.str (sgnN t), .bool w, x3, x4, x5, x6, x7, x8, x11, x26, x37, x41, x52, x62, x68] H0 := by
        intro x3 x4 x5 x6 x7 x8 x11 x26 x37 x41 x52 x62 x68
        have hu : (sgnN t).length < 1000 := by
          cases t with
          | nil => simp [sgnN]
          | cons d v => simp only [sgnN]; split <;> simp at hl ⊢ <;> omega
        by_cases hz : dg (sgnN t) = 0
        · have h0 : (((dg (sgnN t) : Nat) : Int) == 0) = true := by simp [hz]
          have hn : expN (c :: t) = none := by
            show (if _ = true then (if _ then _ else _) else _) = _
            rw [if_pos he, if_pos hz]
          rw [hn] at hk
          simp -implicitDefEqProofs only [r19_19, r19_20, r19_21, opn_z, opn_s, sel_z, sel_s, qCd_eq, qIf_true, qRes_val, qEql_int, ep41 _ (show (sgnN t).length < 1000000000000 by omega), h0]
          exact hk _ _ _ _ _ _ _ _ _ _ _ _ _
        · have h0 : (((dg (sgnN t) : Nat) : Int) == 0) = false := by simp [hz]
          simp -implicitDefEqProofs only [r19_19, r19_20, r19_22, opn_z, opn_s, sel_z, sel_s, qCd_eq, qIf_false, qRes_val, qEql_int, ep41 _ (show (sgnN t).length < 1000000000000 by omega), h0, slcS_lo _ _ (dg_le (sgnN t))]
          exact fin _ (by show (if _ = true then (if _ then _ else _) else _) = _; rw [if_pos he, if_neg hz]) _ _ _ _ _ _ _ _ _ _ _ _ _
      cases t with
      | nil =>
        simp -implicitDefEqProofs only [r19_15, r19_16, r19_17, opn_z, opn_s, sel_z, sel_s, qCd_eq, qIf_true, qRes_val, qPick_true, qG_tt, qGeq_int, qNeq_str, dec_nil_cons, Bool.not_false, qIx_0, ep43, ib_dec, he, slcS_1]
        (apply mid <;> exact Aes.undef)
      | cons d v =>
        cases hs : ([43, 45] : Str).contains d with
        | true =>
          have e : sgnN (d :: v) = v := if_pos hs
          rw [e] at mid
          simp -implicitDefEqProofs only [r19_15, r19_16, r19_17, r19_18, opn_z, opn_s, sel_z, sel_s, qCd_eq, qIf_true, qRes_val, qPick_true, qG_tt, qGeq_int, qNeq_str, dec_nil_cons, Bool.not_false, qIx_0, ep43, ib_dec, he, hs, slcS_1]
          (apply mid <;> exact Aes.undef)
        | false =>
          have e : sgnN (d :: v) = d :: v := if_neg (by rw [hs]; simp)
          rw [e] at mid
          simp -implicitDefEqProofs only [r19_15, r19_16, r19_17, opn_z, opn_s, sel_z, sel_s, qCd_eq, qIf_true, qIf_false, qRes_val, qPick_true, qG_tt, qGeq_int, qNeq_str, dec_nil_cons, Bool.not_false, qIx_0, ep43, ib_dec, he, hs, slcS_1]
          (apply mid <;> exact Aes.undef)
theorem dg_cons {c : UInt8} {s : Str} : dg (c :: s) = if isD c then dg s + 1 else 0 := by
  unfold dg
  rw [List.takeWhile_cons]
  cases isD c <;> simp
theorem cutP_len (s p : Str) : (cutP s p).length ≤ s.length := by
  unfold cutP
  split <;> simp
theorem ep15 (s : Str) (hl : s.length < 1000000000000) (H : AH) : EP 19 [.str s] H = some (.val (.tup [.bool (num s).1, .bool (num s).2]) H) := by
  refine uo_form e19 xf19 rfl rfl rfl rfl ?_ H
  simp only [AV.kills, AV.kill]
  by_cases h40 : 40 < s.length
  · have h' : (40 : Int) < (s.length : Int) := by omega
    have hn : num s = (false, false) := by simp [num, h40]
    simp -implicitDefEqProofs only [c19, r19_0, r19_1, r19_2, opn_z, opn_s, sel_z, sel_s, qCd_eq, qIf_true, qFn_eq, qGtr_int, qLenS_str, AV.kill, AV.kills, h', decide_true, hn]
  have h' : ¬ (40 : Int) < (s.length : Int) := by omega
  have hle := cutP_len s [45]
  generalize hs1 : cutP s [45] = s1 at hle
  have e29 := fun H => ep40 s [45] H
  rw [hs1] at e29
  have e30 := fun H => ep41 s1 (by omega) H
  simp -implicitDefEqProofs only [c19, r19_0, r19_1, r19_3, r19_4, opn_z, opn_s, sel_z, sel_s, qCd_eq, qIf_false, qFn_eq, qRes_val, qGtr_int, qLenS_str, h', decide_false, e29, e30]
  by_cases hz : dg s1 = 0
  · have hn : num s = (false, false) := by simp [num, h40, hs1, hz]
    have z1 : (((dg s1 : Nat) : Int) == 0) = true := by simp [hz]
    simp -implicitDefEqProofs only [r19_5, r19_6, opn_z, opn_s, sel_z, sel_s, qCd_eq, qIf_true, qPick_true, qG_tf, qEql_int, qG_un, AV.kill, AV.kills, z1, hn]
  have z1 : (((dg s1 : Nat) : Int) == 0) = false := by simp [hz]
  cases s1 with
  | nil => exact absurd rfl hz
  | cons c t =>
  have goOn : ¬ (dg (c :: t) = 0 ∨ (1 < dg (c :: t) ∧ (c :: t).head? = some 48)) → ∀ (x5 x6 x7 x8 x11 x26 x37 x41 x52 x62 x68 : AV),
      (r19_7 (r19_8 (r19_9 EP (r19_10 (qCd (sel 10) (fun k4 => (r19_11 EP (r19_12 (qCd (sel 11) (fun _ => (r19_13 (fun fr H => (AV.tup [sel 1 fr, sel 2 fr]).kill = .tup [.bool (num s).1, .bool (num s).2]))) (fun k5 => k5) (r19_14 k4))))) (fun k4 => k4)
        (r19_15 EP (qCd (sel 12) (fun k1 => (r19_16 (r19_17 EP (qCd (sel 13) (fun k3 => (r19_18 k3)) (fun k3 => k3) (r19_19 EP (r19_20 (qCd (sel 14) (fun _ => (r19_21 (fun fr H => (AV.tup [sel 1 fr, sel 2 fr]).kill = .tup [.bool (num s).1, .bool (num s).2]))) (fun k2 => k2) (r19_22 k1)))))))) (fun k1 => k1)
        (r19_23 (fun fr H => (AV.tup [sel 1 fr, sel 2 fr]).kill = .tup [.bool (num s).1, .bool (num s).2]))))))))) [.str (c :: t), .bool false, .bool false, .int .i64 (dg (c :: t) : Int), x5, x6, x7, x8, x11, x26, x37, x41, x52, x62, x68] H0 := by
    intro hc x5 x6 x7 x8 x11 x26 x37 x41 x52 x62 x68
    have hd := dg_le (c :: t)
    generalize hs2 : (c :: t).drop (dg (c :: t)) = s2
    have hl2 : s2.length ≤ 40 := by rw [← hs2]; simp at hle ⊢; omega
    have sl := fun k => slcS_lo (c :: t) (dg (c :: t)) hd k
    rw [hs2] at sl
    have hnum : num s = match fracN s2 with
      | none => (false, false)
      | some s3 => match expN s3 with
        | none => (false, false)
        | some s4 => (decide (s2 = []) && decide (s4 = []), decide (s4 = [])) := by
      simp only [num, if_neg h40, hs1, if_neg hc, hs2]
    cases s2 with
    | nil =>
      have hnm : num s = (true, true) := by rw [hnum]; rfl
      have e31 : ∀ H, EP 31 [.str [], .str [46]] H = some (.val (.tup [.str [], .bool false]) H) := fun H => ep42 [] [46] H
      simp -implicitDefEqProofs only [r19_7, r19_8, r19_9, r19_10, opn_z, opn_s, sel_z, sel_s, qCd_eq, qIf_false, qO_some, qRes_val, qExt_tup, List.getElem?_cons_zero, List.getElem?_cons_succ, sl, qEql_str, e31]
      refine tail15 _ [] true (by simp) (fun x0 x4 x5 x6 x7 x8 x11 x26 x37 x41 x52 x62 x68 => ?_) _ _ _ _ _ _ _ _ _ _ _ _ _
      rw [hnm]
      rfl
    | cons a u =>
      by_cases ha : a = 46
      · subst ha
        have e31 : ∀ H, EP 31 [.str (46 :: u), .str [46]] H = some (.val (.tup [.str u, .bool true]) H) := fun H => by rw [ep42, cutP_1, hp_one]; rfl
        have e30 := fun H => ep41 u (by simp at hl2; omega) H
        by_cases hu : dg u = 0
        · have hnm : num s = (false, false) := by rw [hnum]; simp [fracN, hu]
          have z2 : (((dg u : Nat) : Int) == 0) = true := by simp [hu]
          simp -implicitDefEqProofs only [r19_7, r19_8, r19_9, r19_10, r19_11, r19_12, r19_13, opn_z, opn_s, sel_z, sel_s, qCd_eq, qIf_true, qO_some, qRes_val, qExt_tup, qEql_int, List.getElem?_cons_zero, List.getElem?_cons_succ, sl, qEql_str, e31, e30, z2, hnm, AV.kill, AV.kills]
        · have z2 : (((dg u : Nat) : Int) == 0) = false := by simp [hu]
          simp -implicitDefEqProofs only [r19_7, r19_8, r19_9, r19_10, r19_11, r19_12, r19_14, opn_z, opn_s, sel_z, sel_s, qCd_eq, qIf_true, qIf_false, qO_some, qRes_val, qExt_tup, qEql_int, List.getElem?_cons_zero, List.getElem?_cons_succ, sl, qEql_str, dec_nil_cons, e31, e30, z2, slcS_lo _ _ (dg_le u)]
          refine tail15 _ (u.drop (dg u)) false (by simp at hl2 ⊢; omega) (fun x0 x4 x5 x6 x7 x8 x11 x26 x37 x41 x52 x62 x68 => ?_) _ _ _ _ _ _ _ _ _ _ _ _ _
          rw [hnum]
          simp only [fracN, if_pos, if_neg hu]
          cases expN (u.drop (dg u)) <;> rfl
      · have e31 : ∀ H, EP 31 [.str (a :: u), .str [46]] H = some (.val (.tup [.str (a :: u), .bool false]) H) := fun H => by
          rw [ep42]; simp [cutP, hp_one, ha]
        simp -implicitDefEqProofs only [r19_7, r19_8, r19_9, r19_10, opn_z, opn_s, sel_z, sel_s, qCd_eq, qIf_false, qO_some, qRes_val, qExt_tup, List.getElem?_cons_zero, List.getElem?_cons_succ, sl, qEql_str, dec_nil_cons, e31]
        refine tail15 _ (a :: u) false (by simp at hl2 ⊢; omega) (fun x0 x4 x5 x6 x7 x8 x11 x26 x37 x41 x52 x62 x68 => ?_) _ _ _ _ _ _ _ _ _ _ _ _ _
        rw [hnum]
        simp only [fracN, if_neg ha]
        cases expN (a :: u) <;> rfl
  by_cases h1 : 1 < dg (c :: t)
  · have h1' : (1 : Int) < (dg (c :: t) : Int) := by omega
    have hb := u8_eq c 48
    have e35 : (((48 : UInt8).toNat : Nat) : Int) = 48 := rfl
    rw [e35] at hb
    by_cases hc : c = 48
    · have hn : num s = (false, false) := by
        simp only [num, if_neg h40, hs1]
        rw [if_pos (.inr ⟨h1, by rw [hc]; rfl⟩)]
      rw [decide_eq_true hc] at hb
      simp -implicitDefEqProofs only [r19_5, r19_6, opn_z, opn_s, sel_z, sel_s, qCd_eq, qIf_true, qPick_true, qPick_false, qG_tt, qG_ff, qGtr_int, qEql_int, z1, h1', decide_true, qIx_0, hb, hn, AV.kill, AV.kills]
    · rw [decide_eq_false hc] at hb
      simp -implicitDefEqProofs only [r19_5, opn_z, opn_s, sel_z, sel_s, qCd_eq, qIf_false, qPick_true, qPick_false, qG_tt, qG_ff, qGtr_int, qEql_int, z1, h1', decide_true, qIx_0, hb]
      exact goOn (by simp [hz, hc]) _ _ _ _ _ _ _ _ _ _ _
  · have h1' : ¬ (1 : Int) < (dg (c :: t) : Int) := by omega
    simp -implicitDefEqProofs only [r19_5, opn_z, opn_s, sel_z, sel_s, qCd_eq, qIf_false, qPick_false, qG_ff, qG_ft, qGtr_int, qEql_int, z1, h1', decide_false]
    exact goOn (by simp [hz]; omega) _ _ _ _ _ _ _ _ _ _ _
end T
set_option linter.unusedVariables false
set_option linter.unusedSimpArgs false
set_option maxRecDepth 10000
namespace T
open Go Go.Aes Go.Proofs
theorem awk (H : AH) : EP 5 [] H = some (.val (.bool true) H) := evO_O rfl rfl
theorem place_eq (v n : Int) (hn : 0 < n) : (if v.tmod n < 0 then v.tmod n + n else v.tmod n) = v % n := by
  have h1 := Int.tmod_eq_emod (a := v) (b := n)
  have h2 := Int.emod_nonneg v (by omega : n ≠ 0)
  have h3 := Int.emod_lt_of_pos v hn
  split at h1 <;> split <;> omega
theorem ep26 (v n : Int) (hn : 0 < n) (hn2 : n ≤ 4611686018427387904) (H : AH) : EP 9 [.int .i64 v, .int .i64 n] H = some (.val (.int .i64 (v % n)) H) := by
  refine uo_form e9 xf9 rfl rfl rfl rfl ?_ H
  simp only [AV.kills, AV.kill]
  have h0 := place_eq v n hn
  have hrem := fun k => qRem_int (R := Prop) X 3 .i64 v n k (by omega)
  have h2 := Int.emod_nonneg v (by omega : n ≠ 0)
  have h3 := Int.emod_lt_of_pos v hn
  by_cases h : v.tmod n < 0
  · rw [if_pos h] at h0
    have hi : IntKind.i64.wrap (v.tmod n + n) = v % n := by rw [h0]; exact i64_in' (by omega)
    simp -implicitDefEqProofs only [c9, r9_0, r9_1, r9_2, r9_3, r9_4, opn_z, opn_s, sel_z, sel_s, qCd_eq, qIf_true, qFn_eq, qLss_int, qAdd_int, AV.kill, hrem, h, decide_true, hi]
  · rw [if_neg h] at h0
    have h' : ¬ (v % n < 0) := by omega
    simp -implicitDefEqProofs only [c9, r9_0, r9_1, r9_2, r9_4, opn_z, opn_s, sel_z, sel_s, qCd_eq, qIf_false, qFn_eq, qLss_int, AV.kill, hrem, h0, h', decide_false]
end T
set_option linter.unusedVariables false
set_option linter.unusedSimpArgs false
set_option maxRecDepth 10000
namespace T
open Go Go.Aes Go.Proofs
inductive Rd (H : AH) (n : Nat) (rows : List (List AV)) : AV → Prop where
  | sl (tk : Tk) : Rd H n rows (.sl rows tk)
  | hsl (i len cap : Nat) (g : Bool) (cs : List AV) (h : H.get i = some (.cells cs)) (hc : cs.take (rows.length * n) = rows.flatten) (hl : len = rows.length) : Rd H n rows (.hsl i 0 len cap n g)
theorem Rd.keep {H H' : AH} {n : Nat} {rows : List (List AV)} {v : AV} (h : Rd H n rows v) (k : ∀ i cs, H.get i = some (.cells cs) → H'.get i = some (.cells cs)) : Rd H' n rows v := by
  cases h with
  | sl tk => exact .sl tk
  | hsl i len cap g cs h hc hl => exact .hsl i len cap g cs (k i _ h) hc hl
theorem Rd.len {H : AH} {n : Nat} {rows : List (List AV)} {v : AV} (h : Rd H n rows v) (k : AV → Prop) : qLenL v k = k (.int .i64 (rows.length : Int)) := by
  cases h with
  | sl tk => rfl
  | hsl i len cap g cs h hc hl => subst hl; rfl
theorem Rd.one {H : AH} {n : Nat} {rows : List (List AV)} {v : AV} (h : Rd H n rows v) : one v = true := by cases h <;> rfl
theorem flat_get : ∀ {rows : List (List AV)} {n : Nat}, (∀ r ∈ rows, r.length = n) → ∀ {i : Nat} {r : List AV}, rows[i]? = some r → (rows.flatten.drop (i * n)).take n = r
  | [], n, h, i, r, hi => by simp at hi
  | a :: rows, n, h, 0, r, hi => by
    simp at hi
    subst hi
    have := h a (by simp)
    simp [← this]
  | a :: rows, n, h, i + 1, r, hi => by
    have ha := h a (by simp)
    rw [List.flatten_cons, Nat.add_mul, Nat.one_mul, Nat.add_comm, ← List.drop_drop, ← ha, List.drop_left, ha]
    exact flat_get (fun r hr => h r (by simp [hr])) (by simpa using hi)
theorem Rd.at_ {H : AH} {n : Nat} {rows : List (List AV)} {v : AV} (h : Rd H n rows v) (hr : ∀ r ∈ rows, r.length = n) {i : Nat} {r : List AV} (hi : rows[i]? = some r) :
    ∃ p, (∀ k : AV → Prop, qIa n v (.int .i64 (i : Int)) k = k p) ∧ (∀ k : AV → Prop, qLdA n p H k = k (.agg r)) ∧ (∀ a, r = [a] → ∀ k : AV → Prop, qLd p H k = k a) := by
  have hrl := hr r (List.mem_of_getElem? hi)
  cases h with
  | sl tk =>
    refine ⟨.vptr r 0, fun k => qIa_rows hi hrl k, fun k => by rw [qLdA_vptr, slice_whole r n hrl, qO_some], fun a ha k => by subst ha; rfl⟩
  | hsl j len cap g cs hg hc hlen =>
    subst hlen
    have hil : i < rows.length := (List.getElem?_eq_some_iff.1 hi).1
    have hfl := flat_get hr hi
    rw [← hc, List.drop_take, List.take_take, Nat.min_eq_left (by
      have h1 : (i + 1) * n ≤ rows.length * n := Nat.mul_le_mul_right n hil
      rw [Nat.add_mul, Nat.one_mul] at h1
      omega)] at hfl
    have hsl : slice? cs (0 + i * n) n = some r := by
      rw [Nat.zero_add]
      simp only [slice?, hfl, hrl, Nat.beq_refl, cond_true]
    refine ⟨.ptr j (0 + i * n), fun k => qIa_hsl .i64 k n j 0 rows.length cap g i hil, fun k => ldA hg _ hsl k, fun a ha k => ?_⟩
    subst ha
    refine ld1 hg _ a ?_ k
    rw [Nat.zero_add]
    have := congrArg (·[0]?) hfl
    simpa [List.getElem?_take, List.getElem?_drop, ← hrl] using this
theorem ep55 (s : Str) (h : s.length < 1000000000000) (H : AH) : EP 64 [.str s] H = some (.val (.bool (Lib.validD s)) H) := by
  refine evO_O rfl ?_
  have hb : s.length.ble 9223372036854775807 = true := by rw [Nat.ble_eq]; omega
  have : OF2 64 [.str s] H = oValid [.str s] H := rfl
  rw [this]
  simp [oValid, hb]
theorem ep30 (s : Str) (h : s.length < 1000000000000) (H : AH) : EP 47 [.str s] H = some (.val (.bool (Lib.validD s)) H) := by
  refine uo_form e47 xf47 rfl rfl rfl rfl ?_ H
  simp only [AV.kills, AV.kill]
  simp -implicitDefEqProofs only [c47, r47_0, r47_1, opn_z, opn_s, sel_z, sel_s, qFn_eq, qRes_val, AV.kill, ep55 s h]
end T
