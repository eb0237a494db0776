import Derived.Test.YtpndehigidcchaaDoorLxY
import Derived.Test.YtpndehigidcchaaDoorLxR
set_option linter.all false
set_option linter.unusedVariables false
set_option linter.unusedSimpArgs false
set_option maxRecDepth 10000
namespace T
open Go Go.Aes Go.Proofs

/-! ### LexWrong -/
def nls : List Str := [[10], [13], [13, 10]]
theorem place4 (v n : Int) (hn : 0 < n) (hn2 : n ≤ 4611686018427387904) : ∃ k : Nat, (k : Int) < n ∧ ∀ H, EP4 7 [.int .i64 v, .int .i64 n] H = some (.val (.int .i64 (k : Int)) H) := by
  have h0 := Int.emod_nonneg v (show n ≠ 0 by omega)
  have hlt := Int.emod_lt_of_pos v hn
  obtain ⟨k, hk⟩ := Int.eq_ofNat_of_zero_le h0
  exact ⟨k, by rw [← hk]; exact hlt, fun H => by rw [up4 (ep26 v n hn hn2 H), hk]⟩
theorem awk4 (H : AH) : EP4 9 [] H = some (.val (.bool true) H) := up4 (awk H)
def strsW : AV := .agg [.str [37], .str [49,97], .str [48,49], .str [45], .str [34], .str [34,92,113,34], .str [34,34,34], .str [46,46], .str [116,104,105,115,95,110,97,109,101,95,105,115,95,108,111,110,103,101,114,95,116,104,97,110,95,97,110,121,95,110,97,109,101,95,109,97,121,95,98,101,95,120], .str [1]]
theorem idx33 (e : Nat) (h : e < 10) : indexOf X 33 strsW (.int .i64 (e : Int)) = some (.str (wrongs.getD e [])) := by
  match e, h with
  | 0, _ => show indexOf X 33 strsW (.int .i64 0) = some (.str (wrongs.getD 0 [])); kernel_rfl
  | 1, _ => show indexOf X 33 strsW (.int .i64 1) = some (.str (wrongs.getD 1 [])); kernel_rfl
  | 2, _ => show indexOf X 33 strsW (.int .i64 2) = some (.str (wrongs.getD 2 [])); kernel_rfl
  | 3, _ => show indexOf X 33 strsW (.int .i64 3) = some (.str (wrongs.getD 3 [])); kernel_rfl
  | 4, _ => show indexOf X 33 strsW (.int .i64 4) = some (.str (wrongs.getD 4 [])); kernel_rfl
  | 5, _ => show indexOf X 33 strsW (.int .i64 5) = some (.str (wrongs.getD 5 [])); kernel_rfl
  | 6, _ => show indexOf X 33 strsW (.int .i64 6) = some (.str (wrongs.getD 6 [])); kernel_rfl
  | 7, _ => show indexOf X 33 strsW (.int .i64 7) = some (.str (wrongs.getD 7 [])); kernel_rfl
  | 8, _ => show indexOf X 33 strsW (.int .i64 8) = some (.str (wrongs.getD 8 [])); kernel_rfl
  | 9, _ => show indexOf X 33 strsW (.int .i64 9) = some (.str (wrongs.getD 9 [])); kernel_rfl
theorem bld33 (k : AV → Prop) : qBld z33 [(0, 1, (.str [37])), (1, 1, (.str [49,97])), (2, 1, (.str [48,49])), (3, 1, (.str [45])), (4, 1, (.str [34])), (5, 1, (.str [34,92,113,34])), (6, 1, (.str [34,34,34])), (7, 1, (.str [46,46])), (8, 1, (.str [116,104,105,115,95,110,97,109,101,95,105,115,95,108,111,110,103,101,114,95,116,104,97,110,95,97,110,121,95,110,97,109,101,95,109,97,121,95,98,101,95,120])), (9, 1, (.str [1]))] k =
    k strsW := rfl
theorem wrongs_mem : ∀ w, w < 10 → wrongs.getD w [] ∈ wrongs := by decide
theorem nls_mem : ∀ w, w < 3 → nls.getD w [] ∈ nls := by decide
theorem wrongs_len : ∀ w ∈ wrongs, w.length ≤ 60 := by decide
set_option maxHeartbeats 1000000 in
theorem law4 (a b : Int) : c4 EP4 [.int .i64 a, .int .i64 b] H0 (fun v _ => v = .bool true) := by
  obtain ⟨n, hn, e7⟩ := place4 a 40 (by omega) (by omega)
  obtain ⟨w, hw, e7b⟩ := place4 b 10 (by omega) (by omega)
  simp -implicitDefEqProofs only [c4, r4_0, r4_1, r4_2, r4_3, opn_z, opn_s, qFn_eq, qBl_eq, qRes_val, e7]
  refine loop_inv (fun m fr H' => ∃ (i : Nat) (x8 x9 x10 x11 x16 : AV), m + i = n ∧ fr = [.int .i64 a, .int .i64 b, .bool false, .int .i64 (n : Int), .str (as_ i), .int .i64 (i : Int), x8, x9, x10, x11, x16] ∧ H' = H0) ?_ (m := n) ?_
  case refine_2 => exact ⟨0, _, _, _, _, _, rfl, rfl, rfl⟩
  rintro m fr H' k ⟨i, x8, x9, x10, x11, x16, hm, rfl, rfl⟩ hk
  have hl := as_len i
  by_cases h : i < n
  · have c1 : (i : Int) < (n : Int) := by omega
    have qa := fun k => qAdd_str (R := Prop) X 9 (as_ i) [97, 44] (by unfold most; simp; omega) k
    rw [as_app] at qa
    have hwr : IntKind.i64.wrap ((i : Int) + 1) = ((i + 1 : Nat) : Int) := by rw [i64_in' (by omega)]; omega
    simp -implicitDefEqProofs only [l4_4, r4_4, r4_5, r4_6, opn_z, opn_s, sel_z, sel_s, qCd_eq, qIf_true, qBl_eq, qLss_int, qAdd_int, c1, decide_true, qa, hwr]
    exact hk (m - 1) _ _ (by omega) ⟨i + 1, _, _, _, _, _, by omega, rfl, rfl⟩
  · have c1 : ¬ (i : Int) < (n : Int) := by omega
    obtain rfl : i = n := by omega
    have hix := idx33 w (by omega)
    have hmem : wrongs.getD w [] ∈ wrongs := wrongs_mem w (by omega)
    have hwl := wrongs_len _ hmem
    have hlaw := wrong_law i hmem
    generalize wrongs.getD w [] = ws at *
    have q1 := fun k => qAdd_str (R := Prop) X 9 (as_ i) ws (by unfold most; omega) k
    have q2 := fun k => qAdd_str (R := Prop) X 9 (as_ i ++ ws) [32, 98] (by unfold most; simp; omega) k
    obtain ⟨v, H1, e8, hkp, hok⟩ := epAll (as_ i ++ ws ++ [32, 98]) (H := H0)
    have hv : v = .tup [.sl [] .nil, .int .i64 ((2 * i : Nat) : Int), .int .i64 2] := by
      unfold AllOk at hok
      rw [if_neg (by simp; omega), hlaw] at hok
      exact hok
    subst hv
    have c2 : ((0 : Int) == 0) = true := rfl
    have c3 : ((2 : Int) == 2) = true := rfl
    have hm2 : IntKind.i64.wrap (2 * (i : Int)) = ((2 * i : Nat) : Int) := by rw [i64_in' (by omega)]; omega
    have c4' : (((2 * i : Nat) : Int) == ((2 * i : Nat) : Int)) = true := by simp
    have hlen : (((0 : Nat) : Int) == 0) = true := rfl
    simp -implicitDefEqProofs only [l4_4, r4_4, r4_7, r4_8, r4_9, opn_z, opn_s, sel_z, sel_s, qCd_eq, qIf_false, qBl_eq, qO_some, qRes_val, qPick_true, qG_tt, qExt_tup, qLss_int, qEql_int, qMul_int, qLenL_sl, List.getElem?_cons_zero, List.getElem?_cons_succ, List.length_nil, c1, decide_false, bld33, e7b, hix, q1, q2, e8, c3, hm2, c4', hlen, awk4]
theorem ev_wrong (a b : Int) : ∃ H', EP4 4 [.int .i64 a, .int .i64 b] H0 = some (.val (.bool true) H') := by
  obtain ⟨w, H', h1, h2⟩ := ao_form (X := X) (D := OD2) (O := OF4) (S := PS) (al := [.int .i64 a, .int .i64 b]) (H := H0) e4 xf4 rfl rfl (Q := fun v _ => v = .bool true) (law4 a b)
  subst h2
  exact ⟨H', h1⟩

/-! ### LexRemarks -/
def strsN : AV := .agg [.str [10], .str [13], .str [13,10]]
theorem idx36 (e : Nat) (h : e < 3) : indexOf X 36 strsN (.int .i64 (e : Int)) = some (.str (nls.getD e [])) := by
  match e, h with
  | 0, _ => show indexOf X 36 strsN (.int .i64 0) = some (.str (nls.getD 0 [])); kernel_rfl
  | 1, _ => show indexOf X 36 strsN (.int .i64 1) = some (.str (nls.getD 1 [])); kernel_rfl
  | 2, _ => show indexOf X 36 strsN (.int .i64 2) = some (.str (nls.getD 2 [])); kernel_rfl
theorem bld36 (k : AV → Prop) : qBld z36 [(0, 1, (.str [10])), (1, 1, (.str [13])), (2, 1, (.str [13,10]))] k = k strsN := rfl
theorem nls_len : ∀ w ∈ nls, w.length ≤ 2 := by decide
/-- a list of tokens that is held in the hand: the text of one -/
theorem tok_s {rows : List (List AV)} {tk : Tk} {i : Nat} {q : Tok} (h : rows[i]? = some (tokR q)) (k : AV → Prop) :
    qIa 3 (.sl rows tk) (.int .i64 (i : Int)) k = k (.vptr (tokR q) 0) := qIa_sl (R := Prop) .i64 k 3 rows tk i (tokR q) h rfl
set_option maxHeartbeats 1000000 in
theorem law6 (s : Str) (b : Int) : c6 EP4 [.str s, .int .i64 b] H0 (fun v _ => v = .bool true) := by
  by_cases h5 : 500 < s.length
  · have c1 : (s.length : Int) > 500 := by omega
    simp -implicitDefEqProofs only [c6, r6_0, r6_1, r6_2, opn_z, opn_s, sel_z, sel_s, qCd_eq, qIf_true, qFn_eq, qBl_eq, qRes_val, qGtr_int, qLenS_str, c1, decide_true, awk4]
  have c1 : ¬ (s.length : Int) > 500 := by omega
  simp -implicitDefEqProofs only [c6, r6_0, r6_1, r6_3, opn_z, opn_s, sel_z, sel_s, qCd_eq, qIf_false, qFn_eq, qBl_eq, qGtr_int, qLenS_str, c1, decide_false]
  refine loop_inv (fun m fr H' => ∃ (i : Nat) (x6 x7 x9 x10 x12 x15 x20 x32 : AV), m + i = s.length ∧ (∀ c ∈ s.take i, lxH c = true) ∧ fr = [.str s, .int .i64 b, .bool false, .int .i64 (i : Int), x6, x7, x9, x10, x12, x15, x20, x32] ∧ H' = H0) ?_ (m := s.length) ?_
  case refine_2 => exact ⟨0, _, _, _, _, _, _, _, _, rfl, by simp, rfl, rfl⟩
  rintro m fr H' k ⟨i, x6, x7, x9, x10, x12, x15, x20, x32, hm, hall, rfl, rfl⟩ hk
  by_cases h : i < s.length
  · have c2 : (i : Int) < (s.length : Int) := by omega
    have hc : s[i]? = some s[i] := List.getElem?_eq_getElem h
    have hx := fun k => qIx_at s i s[i] hc k
    have h10 : (((s[i].toNat : Nat) : Int) == 10) = decide (s[i] = 10) := u8_ne _ 10 (by decide)
    have h13 : (((s[i].toNat : Nat) : Int) == 13) = decide (s[i] = 13) := u8_ne _ 13 (by decide)
    by_cases k1 : s[i] = 10
    · rw [decide_eq_true k1] at h10
      simp -implicitDefEqProofs only [l6_5, r6_4, r6_6, r6_7, opn_z, opn_s, sel_z, sel_s, qCd_eq, qIf_true, qBl_eq, qRes_val, qPick_true, qG_tf, qLss_int, qEql_int, qLenS_str, c2, decide_true, hx, h10, awk4]
    · rw [decide_eq_false k1] at h10
      by_cases k2 : s[i] = 13
      · rw [decide_eq_true k2] at h13
        simp -implicitDefEqProofs only [l6_5, r6_4, r6_6, r6_7, opn_z, opn_s, sel_z, sel_s, qCd_eq, qIf_true, qBl_eq, qRes_val, qPick_false, qG_ff, qLss_int, qEql_int, qLenS_str, c2, decide_true, hx, h10, h13, awk4]
      · rw [decide_eq_false k2] at h13
        have hwr : IntKind.i64.wrap ((i : Int) + 1) = ((i + 1 : Nat) : Int) := by rw [i64_in' (by omega)]; omega
        simp -implicitDefEqProofs only [l6_5, r6_4, r6_6, r6_5, opn_z, opn_s, sel_z, sel_s, qCd_eq, qIf_true, qIf_false, qBl_eq, qPick_false, qG_ff, qLss_int, qEql_int, qAdd_int, qLenS_str, c2, decide_true, hx, h10, h13, hwr]
        refine hk (m - 1) _ _ (by omega) ⟨i + 1, _, _, _, _, _, _, _, _, by omega, ?_, rfl, rfl⟩
        intro c hcm
        rw [List.take_succ, hc] at hcm
        rcases List.mem_append.1 hcm with hcm | hcm
        · exact hall c hcm
        · have : c = s[i] := by simpa using hcm
          rw [this]
          simp [lxH, k1, k2]
  · have c2 : ¬ (i : Int) < (s.length : Int) := by omega
    rw [List.take_of_length_le (by omega)] at hall
    obtain ⟨e, he, e7⟩ := place4 b 3 (by omega) (by omega)
    have hix := idx36 e (by omega)
    have hmem : nls.getD e [] ∈ nls := nls_mem e (by omega)
    have hnl := nls_len _ hmem
    obtain ⟨l2, l1⟩ := remark_law s hall
    obtain ⟨j, l1⟩ := l1 _ hmem
    generalize nls.getD e [] = nl at *
    have q1 := fun k => qAdd_str (R := Prop) X 9 [97, 35] s (by unfold most; simp; omega) k
    have q2 := fun k => qAdd_str (R := Prop) X 9 ([97, 35] ++ s) nl (by unfold most; simp; omega) k
    have q3 := fun k => qAdd_str (R := Prop) X 9 ([97, 35] ++ s ++ nl) [98] (by unfold most; simp; omega) k
    have hAl : ([97, 35] ++ s).length = s.length + 2 := by simp
    generalize [97, 35] ++ s = A at *
    obtain ⟨v, H1, e8, hkp, hok⟩ := epAll (A ++ nl ++ [98]) (H := H0)
    haveI := hkp.fn
    obtain ⟨v2, H2, e8b, hkp2, hok2⟩ := epAll A (H := H1)
    unfold AllOk at hok hok2
    rw [if_neg (by simp; omega), l1] at hok
    rw [if_neg (by omega), l2] at hok2
    obtain ⟨lv, rfl, ho⟩ := hok
    obtain ⟨lv2, rfl, ho2⟩ := hok2
    obtain ⟨tk, rfl⟩ := ho.sl
    obtain ⟨tk2, rfl⟩ := ho2.sl
    have c3 : ((0 : Int) == 0) = true := rfl
    have c4 : (((2 : Nat) : Int) == 2) = true := rfl
    have c5 : (((1 : Nat) : Int) == 1) = true := rfl
    have ia := fun k => tok_s (rows := [(1, [97], 0), (1, [98], j)].map tokR) (tk := tk) (i := 1) (q := (1, [98], j)) rfl k
    have e98 : ∀ k : AV → Prop, qEql X 9 (.str [98]) (.str [98]) k = k (.bool true) := fun k => by rw [qEql_str]; simp
    simp -implicitDefEqProofs only [l6_5, r6_4, r6_8, r6_9, r6_10, r6_11, opn_z, opn_s, sel_z, sel_s, qCd_eq, qIf_false, qBl_eq, qO_some, qRes_val, qPick_true, qG_tt, qExt_tup, qLss_int, qEql_int, qLenL_sl, qLenS_str, List.getElem?_cons_zero, List.getElem?_cons_succ, c2, decide_false, bld36, e7, hix, q1, q2, q3, e8, e8b, c3]
    have ia' : ∀ k : AV → Prop, qIa 3 (.sl [tokR (1, [97], 0), tokR (1, [98], j)] tk) (.int .i64 1) k = k (.vptr (tokR (1, [98], j)) 0) := ia
    have fa : ∀ k : AV → Prop, qFa 1 (.vptr (tokR (1, [98], j)) 0) k = k (.vptr (tokR (1, [98], j)) 1) := fun k => rfl
    have ldv : ∀ (H : AH) (k : AV → Prop), qLd (.vptr (tokR (1, [98], j)) 1) H k = k (.str [98]) := fun H k => rfl
    simp -implicitDefEqProofs only [qRes_val, qPick_true, qG_tt, qEql_int, qLenL_sl, Nat.zero_add, List.length_cons, List.length_nil, Nat.reduceAdd, List.map_cons, List.map_nil, c4, c5, ia', fa, ldv, e98, awk4]
theorem ev_remarks (s : Str) (b : Int) : ∃ H', EP4 6 [.str s, .int .i64 b] H0 = some (.val (.bool true) H') := by
  obtain ⟨w, H', h1, h2⟩ := ao_form (X := X) (D := OD2) (O := OF4) (S := PS) (al := [.str s, .int .i64 b]) (H := H0) e6 xf6 rfl rfl (Q := fun v _ => v = .bool true) (law6 s b)
  subst h2
  exact ⟨H', h1⟩
end T
