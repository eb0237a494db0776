import Derived.Test.YtpndehigidcchaaDoorLxT
import Derived.Test.YtpndehigidcchaaDoorLxF
set_option linter.all false
set_option linter.unusedVariables false
set_option linter.unusedSimpArgs false
set_option maxRecDepth 10000
namespace T
open Go Go.Aes Go.Proofs

/-! ### LexTexts -/
def strsE : AV := .agg [.str [97], .str [92,110], .str [92,34], .str [92,92], .str [92,117,48,48,52,49], .str [32], .str [35], .str [92,47]]
def strsY : AV := .agg [.str [97], .str [10], .str [34], .str [92], .str [65], .str [32], .str [35], .str [47]]
def strsB : AV := .agg [.str [97], .str [92,110], .str [92,34,34,34], .str [34], .str [92,117,48,48,52,49], .str [98], .str [35], .str [92,47]]
def strsR : AV := .agg [.str [97], .str [92,110], .str [34,34,34], .str [34], .str [92,117,48,48,52,49], .str [98], .str [35], .str [92,47]]
theorem bldE (k : AV → Prop) : qBld z24 [(0, 1, (.str [97])), (1, 1, (.str [92,110])), (2, 1, (.str [92,34])), (3, 1, (.str [92,92])), (4, 1, (.str [92,117,48,48,52,49])), (5, 1, (.str [32])), (6, 1, (.str [35])), (7, 1, (.str [92,47]))] k = k strsE := rfl
theorem bldY (k : AV → Prop) : qBld z24 [(0, 1, (.str [97])), (1, 1, (.str [10])), (2, 1, (.str [34])), (3, 1, (.str [92])), (4, 1, (.str [65])), (5, 1, (.str [32])), (6, 1, (.str [35])), (7, 1, (.str [47]))] k = k strsY := rfl
theorem bldB (k : AV → Prop) : qBld z24 [(0, 1, (.str [97])), (1, 1, (.str [92,110])), (2, 1, (.str [92,34,34,34])), (3, 1, (.str [34])), (4, 1, (.str [92,117,48,48,52,49])), (5, 1, (.str [98])), (6, 1, (.str [35])), (7, 1, (.str [92,47]))] k = k strsB := rfl
theorem bldR (k : AV → Prop) : qBld z24 [(0, 1, (.str [97])), (1, 1, (.str [92,110])), (2, 1, (.str [34,34,34])), (3, 1, (.str [34])), (4, 1, (.str [92,117,48,48,52,49])), (5, 1, (.str [98])), (6, 1, (.str [35])), (7, 1, (.str [92,47]))] k = k strsR := rfl
theorem idxE (e : Nat) (h : e < 8) : indexOf X 24 strsE (.int .i64 (e : Int)) = some (.str (escL8.getD e [])) := by
  match e, h with
  | 0, _ => show indexOf X 24 strsE (.int .i64 0) = some (.str (escL8.getD 0 [])); kernel_rfl
  | 1, _ => show indexOf X 24 strsE (.int .i64 1) = some (.str (escL8.getD 1 [])); kernel_rfl
  | 2, _ => show indexOf X 24 strsE (.int .i64 2) = some (.str (escL8.getD 2 [])); kernel_rfl
  | 3, _ => show indexOf X 24 strsE (.int .i64 3) = some (.str (escL8.getD 3 [])); kernel_rfl
  | 4, _ => show indexOf X 24 strsE (.int .i64 4) = some (.str (escL8.getD 4 [])); kernel_rfl
  | 5, _ => show indexOf X 24 strsE (.int .i64 5) = some (.str (escL8.getD 5 [])); kernel_rfl
  | 6, _ => show indexOf X 24 strsE (.int .i64 6) = some (.str (escL8.getD 6 [])); kernel_rfl
  | 7, _ => show indexOf X 24 strsE (.int .i64 7) = some (.str (escL8.getD 7 [])); kernel_rfl
theorem idxY (e : Nat) (h : e < 8) : indexOf X 24 strsY (.int .i64 (e : Int)) = some (.str (sayL8.getD e [])) := by
  match e, h with
  | 0, _ => show indexOf X 24 strsY (.int .i64 0) = some (.str (sayL8.getD 0 [])); kernel_rfl
  | 1, _ => show indexOf X 24 strsY (.int .i64 1) = some (.str (sayL8.getD 1 [])); kernel_rfl
  | 2, _ => show indexOf X 24 strsY (.int .i64 2) = some (.str (sayL8.getD 2 [])); kernel_rfl
  | 3, _ => show indexOf X 24 strsY (.int .i64 3) = some (.str (sayL8.getD 3 [])); kernel_rfl
  | 4, _ => show indexOf X 24 strsY (.int .i64 4) = some (.str (sayL8.getD 4 [])); kernel_rfl
  | 5, _ => show indexOf X 24 strsY (.int .i64 5) = some (.str (sayL8.getD 5 [])); kernel_rfl
  | 6, _ => show indexOf X 24 strsY (.int .i64 6) = some (.str (sayL8.getD 6 [])); kernel_rfl
  | 7, _ => show indexOf X 24 strsY (.int .i64 7) = some (.str (sayL8.getD 7 [])); kernel_rfl
theorem idxB (e : Nat) (h : e < 8) : indexOf X 24 strsB (.int .i64 (e : Int)) = some (.str (blkL8.getD e [])) := by
  match e, h with
  | 0, _ => show indexOf X 24 strsB (.int .i64 0) = some (.str (blkL8.getD 0 [])); kernel_rfl
  | 1, _ => show indexOf X 24 strsB (.int .i64 1) = some (.str (blkL8.getD 1 [])); kernel_rfl
  | 2, _ => show indexOf X 24 strsB (.int .i64 2) = some (.str (blkL8.getD 2 [])); kernel_rfl
  | 3, _ => show indexOf X 24 strsB (.int .i64 3) = some (.str (blkL8.getD 3 [])); kernel_rfl
  | 4, _ => show indexOf X 24 strsB (.int .i64 4) = some (.str (blkL8.getD 4 [])); kernel_rfl
  | 5, _ => show indexOf X 24 strsB (.int .i64 5) = some (.str (blkL8.getD 5 [])); kernel_rfl
  | 6, _ => show indexOf X 24 strsB (.int .i64 6) = some (.str (blkL8.getD 6 [])); kernel_rfl
  | 7, _ => show indexOf X 24 strsB (.int .i64 7) = some (.str (blkL8.getD 7 [])); kernel_rfl
theorem idxR (e : Nat) (h : e < 8) : indexOf X 24 strsR (.int .i64 (e : Int)) = some (.str (rawL8.getD e [])) := by
  match e, h with
  | 0, _ => show indexOf X 24 strsR (.int .i64 0) = some (.str (rawL8.getD 0 [])); kernel_rfl
  | 1, _ => show indexOf X 24 strsR (.int .i64 1) = some (.str (rawL8.getD 1 [])); kernel_rfl
  | 2, _ => show indexOf X 24 strsR (.int .i64 2) = some (.str (rawL8.getD 2 [])); kernel_rfl
  | 3, _ => show indexOf X 24 strsR (.int .i64 3) = some (.str (rawL8.getD 3 [])); kernel_rfl
  | 4, _ => show indexOf X 24 strsR (.int .i64 4) = some (.str (rawL8.getD 4 [])); kernel_rfl
  | 5, _ => show indexOf X 24 strsR (.int .i64 5) = some (.str (rawL8.getD 5 [])); kernel_rfl
  | 6, _ => show indexOf X 24 strsR (.int .i64 6) = some (.str (rawL8.getD 6 [])); kernel_rfl
  | 7, _ => show indexOf X 24 strsR (.int .i64 7) = some (.str (rawL8.getD 7 [])); kernel_rfl
def nums (ch : List Int) : List (List AV) := ch.map fun n => [.int .i64 n]
theorem len8 : ∀ k, (escL8.getD k []).length + ([] : Str).length ≤ 8 ∧ (sayL8.getD k []).length + ([] : Str).length ≤ 8 ∧ (blkL8.getD k []).length + ([46] : Str).length ≤ 8 ∧ (rawL8.getD k []).length + ([46] : Str).length ≤ 8 := by
  intro k
  by_cases h : k < 8
  · match k, h with
    | 0, _ => decide
    | 1, _ => decide
    | 2, _ => decide
    | 3, _ => decide
    | 4, _ => decide
    | 5, _ => decide
    | 6, _ => decide
    | 7, _ => decide
  · have e : ∀ L : List Str, L.length = 8 → L.getD k [] = [] := fun L hL => by
      rw [List.getD_eq_getElem?_getD, List.getElem?_eq_none (by omega)]
      rfl
    rw [e _ rfl, e _ rfl, e _ rfl, e _ rfl]
    decide
theorem strs_eq (s : Str) (k : AV → Prop) : qEql X 9 (.str s) (.str s) k = k (.bool true) := by rw [qEql_str]; simp
set_option maxHeartbeats 2000000 in
theorem law3 (ch : List Int) (tk : Tk) : c3 EP4 [.sl (nums ch) tk] H0 (fun v _ => v = .bool true) := by
  simp -implicitDefEqProofs only [c3, r3_0, r3_1, r3_2, opn_z, opn_s, qFn_eq, qBl_eq]
  refine loop_inv (fun m fr H' => ∃ (i : Nat) (ks : List Nat) (x8 x9 x11 x12 x14 x22 : AV), m + i = 60 ∧ i ≤ ch.length ∧ ks.length = i ∧ (∀ k ∈ ks, k < 8) ∧
    fr = [.sl (nums ch) tk, .bool false, .str ([34] ++ cat8 escL8 [] ks), .str (cat8 sayL8 [] ks), .str ([34, 34, 34, 120] ++ cat8 blkL8 [46] ks), .str ([120] ++ cat8 rawL8 [46] ks), .int .i64 (i : Int), x8, x9, x11, x12, x14, x22] ∧ H' = H0) ?_ (m := 60) ?_
  case refine_2 => exact ⟨0, [], _, _, _, _, _, _, rfl, by omega, rfl, by simp, rfl, rfl⟩
  rintro m fr H' k ⟨i, ks, x8, x9, x11, x12, x14, x22, hm, hi, hks, hk8, rfl, rfl⟩ hk
  have l1 := cat8_len escL8 [] 8 (fun k => (len8 k).1) ks
  have l2 := cat8_len sayL8 [] 8 (fun k => (len8 k).2.1) ks
  have l3 := cat8_len blkL8 [46] 8 (fun k => (len8 k).2.2.1) ks
  have l4 := cat8_len rawL8 [46] 8 (fun k => (len8 k).2.2.2) ks
  have hlen : (nums ch).length = ch.length := by simp [nums]
  have fin : ∀ (x8 x9 x11 x12 x14 x22 : AV), r3_10 EP4 (r3_11 EP4 (r3_12 EP4 (fun fr _ => sel 1 fr = .bool true))) [.sl (nums ch) tk, .bool false, .str ([34] ++ cat8 escL8 [] ks), .str (cat8 sayL8 [] ks), .str ([34, 34, 34, 120] ++ cat8 blkL8 [46] ks), .str ([120] ++ cat8 rawL8 [46] ks), .int .i64 (i : Int), x8, x9, x11, x12, x14, x22] H0 := by
    intro x8 x9 x11 x12 x14 x22
    obtain ⟨j1, t1⟩ := text_law ks hk8
    obtain ⟨j2, t2⟩ := blk_law ks hk8
    have a1 : ([34] ++ cat8 escL8 [] ks).length ≤ 700 := by simp only [List.length_append, List.length_cons, List.length_nil]; omega
    have a2 : ([34, 34, 34, 120] ++ cat8 blkL8 [46] ks).length ≤ 700 := by simp only [List.length_append, List.length_cons, List.length_nil]; omega
    generalize [34] ++ cat8 escL8 [] ks = A at *
    generalize cat8 sayL8 [] ks = W at *
    generalize [34, 34, 34, 120] ++ cat8 blkL8 [46] ks = B at *
    generalize [120] ++ cat8 rawL8 [46] ks = V at *
    have q1 := fun k => qAdd_str (R := Prop) X 9 A [34, 32, 53] (by unfold most; simp only [List.length_cons, List.length_nil]; omega) k
    have q2 := fun k => qAdd_str (R := Prop) X 9 B [34, 34, 34, 123] (by unfold most; simp only [List.length_cons, List.length_nil]; omega) k
    obtain ⟨v, H1, e8, hkp, hok⟩ := epAll (A ++ [34, 32, 53]) (H := H0)
    haveI := hkp.fn
    obtain ⟨v2, H2, e8b, hkp2, hok2⟩ := epAll (B ++ [34, 34, 34, 123]) (H := H1)
    unfold AllOk at hok hok2
    rw [if_neg (by simp; omega), t1] at hok
    rw [if_neg (by simp; omega), t2] at hok2
    obtain ⟨lv, rfl, ho⟩ := hok
    obtain ⟨lv2, rfl, ho2⟩ := hok2
    obtain ⟨tk1, rfl⟩ := ho.sl
    obtain ⟨tk2, rfl⟩ := ho2.sl
    have c3 : ((0 : Int) == 0) = true := rfl
    have c4 : (((2 : Nat) : Int) == 2) = true := rfl
    have c5 : (((4 : Nat) : Int) == 4) = true := rfl
    have ia : ∀ (a b : Tok) (tk : Tk) (k : AV → Prop), qIa 3 (.sl [tokR a, tokR b] tk) (.int .i64 0) k = k (.vptr (tokR a) 0) := fun a b tk k => tok_s (rows := [tokR a, tokR b]) (i := 0) rfl k
    have ib : ∀ (a b : Tok) (tk : Tk) (k : AV → Prop), qIa 3 (.sl [tokR a, tokR b] tk) (.int .i64 1) k = k (.vptr (tokR b) 0) := fun a b tk k => tok_s (rows := [tokR a, tokR b]) (i := 1) rfl k
    have fa0 : ∀ (q : Tok) (k : AV → Prop), qFa 0 (.vptr (tokR q) 0) k = k (.vptr (tokR q) 0) := fun q k => rfl
    have fa1 : ∀ (q : Tok) (k : AV → Prop), qFa 1 (.vptr (tokR q) 0) k = k (.vptr (tokR q) 1) := fun q k => rfl
    have ld0 : ∀ (q : Tok) (H : AH) (k : AV → Prop), qLd (.vptr (tokR q) 0) H k = k (.int .i64 (q.1 : Int)) := fun q H k => rfl
    have ldv : ∀ (q : Tok) (H : AH) (k : AV → Prop), qLd (.vptr (tokR q) 1) H k = k (.str q.2.1) := fun q H k => rfl
    simp -implicitDefEqProofs only [r3_10, r3_11, r3_12, opn_z, opn_s, sel_z, sel_s, qO_some, qRes_val, qPick_true, qG_tt, qExt_tup, qEql_int, qLenL_sl, Nat.zero_add, List.getElem?_cons_zero, List.getElem?_cons_succ, List.length_cons, List.length_nil, Nat.reduceAdd, q1, q2, e8, e8b, c3, List.map_cons, List.map_nil, c4, ia, ib, fa0, fa1, ld0, ldv, c5, strs_eq, awk4]
  by_cases h : i < ch.length
  · have c1 : (i : Int) < (ch.length : Int) := by omega
    by_cases h60 : i < 60
    · have c2 : (i : Int) < 60 := by omega
      obtain ⟨n, hn, e7⟩ := place4 ch[i] 8 (by omega) (by omega)
      have hn8 : n < 8 := by omega
      have hr : (nums ch)[i]? = some [.int .i64 ch[i]] := by simp [nums, h]
      have ia := fun k => qIa_sl (R := Prop) .i64 k 1 (nums ch) tk i [.int .i64 ch[i]] hr rfl
      have xE := idxE n hn8
      have xY := idxY n hn8
      have xB := idxB n hn8
      have xR := idxR n hn8
      have s1 := (len8 n).1
      have s2 := (len8 n).2.1
      have s3 := (len8 n).2.2.1
      have s4 := (len8 n).2.2.2
      simp only [List.length_nil, List.length_cons] at s1 s2 s3 s4
      have q1 := fun k => qAdd_str (R := Prop) X 9 ([34] ++ cat8 escL8 [] ks) (escL8.getD n []) (by unfold most; simp only [List.length_append, List.length_cons, List.length_nil]; omega) k
      have q2 := fun k => qAdd_str (R := Prop) X 9 (cat8 sayL8 [] ks) (sayL8.getD n []) (by unfold most; omega) k
      have q3 := fun k => qAdd_str (R := Prop) X 9 ([34, 34, 34, 120] ++ cat8 blkL8 [46] ks) (blkL8.getD n []) (by unfold most; simp only [List.length_append, List.length_cons, List.length_nil]; omega) k
      have q3' := fun k => qAdd_str (R := Prop) X 9 ([34, 34, 34, 120] ++ cat8 blkL8 [46] ks ++ blkL8.getD n []) [46] (by unfold most; simp only [List.length_append, List.length_cons, List.length_nil]; omega) k
      have q4 := fun k => qAdd_str (R := Prop) X 9 ([120] ++ cat8 rawL8 [46] ks) (rawL8.getD n []) (by unfold most; simp only [List.length_append, List.length_cons, List.length_nil]; omega) k
      have q4' := fun k => qAdd_str (R := Prop) X 9 ([120] ++ cat8 rawL8 [46] ks ++ rawL8.getD n []) [46] (by unfold most; simp only [List.length_append, List.length_cons, List.length_nil]; omega) k
      have hwr : IntKind.i64.wrap ((i : Int) + 1) = ((i + 1 : Nat) : Int) := by rw [i64_in' (by omega)]; omega
      have g1 : [34] ++ cat8 escL8 [] ks ++ escL8.getD n [] = [34] ++ cat8 escL8 [] (ks ++ [n]) := by rw [cat8_app]; simp
      have g2 : cat8 sayL8 [] ks ++ sayL8.getD n [] = cat8 sayL8 [] (ks ++ [n]) := by rw [cat8_app]; simp
      have g3 : [34, 34, 34, 120] ++ cat8 blkL8 [46] ks ++ blkL8.getD n [] ++ [46] = [34, 34, 34, 120] ++ cat8 blkL8 [46] (ks ++ [n]) := by rw [cat8_app]; simp
      have g4 : [120] ++ cat8 rawL8 [46] ks ++ rawL8.getD n [] ++ [46] = [120] ++ cat8 rawL8 [46] (ks ++ [n]) := by rw [cat8_app]; simp
      rw [g1] at q1
      rw [g2] at q2
      rw [g3] at q3'
      rw [g4] at q4'
      have nxt := hk (m - 1) [.sl (nums ch) tk, .bool false, .str ([34] ++ cat8 escL8 [] (ks ++ [n])), .str (cat8 sayL8 [] (ks ++ [n])), .str ([34, 34, 34, 120] ++ cat8 blkL8 [46] (ks ++ [n])), .str ([120] ++ cat8 rawL8 [46] (ks ++ [n])), .int .i64 ((i + 1 : Nat) : Int), .int .i64 (n : Int), x9, x11, x12, x14, .bool true] H0 (by omega) ⟨i + 1, ks ++ [n], _, _, _, _, _, _, by omega, by omega, by simp [hks], fun x hx => by
        rcases List.mem_append.1 hx with hx | hx
        · exact hk8 x hx
        · have : x = n := by simpa using hx
          omega, rfl, rfl⟩
      generalize [34] ++ cat8 escL8 [] ks = A at *
      generalize cat8 sayL8 [] ks = W at *
      generalize [34, 34, 34, 120] ++ cat8 blkL8 [46] ks = B at *
      generalize [120] ++ cat8 rawL8 [46] ks = V at *
      generalize [34] ++ cat8 escL8 [] (ks ++ [n]) = A' at *
      generalize cat8 sayL8 [] (ks ++ [n]) = W' at *
      generalize [34, 34, 34, 120] ++ cat8 blkL8 [46] (ks ++ [n]) = B' at *
      generalize [120] ++ cat8 rawL8 [46] (ks ++ [n]) = V' at *
      simp -implicitDefEqProofs only [l3_4, r3_3, r3_4, r3_5, r3_6, r3_7, r3_8, r3_9, opn_z, opn_s, sel_z, sel_s, qCd_eq, qIf_true, qBl_eq, qO_some, qRes_val, qPick_true, qG_tt, qLd_vptr, qLss_int, qAdd_int, qLenL_sl, List.getElem?_cons_zero, hlen, c1, c2, decide_true, ia, e7, bldE, bldY, bldB, bldR, xE, xY, xB, xR, q1, q2, q3, q3', q4, q4', hwr]
      exact nxt
    · have c2 : ¬ (i : Int) < 60 := by omega
      simp -implicitDefEqProofs only [l3_4, r3_3, opn_z, opn_s, sel_z, sel_s, qCd_eq, qIf_false, qG_tt, qPick_true, qLss_int, qLenL_sl, hlen, c1, c2, decide_true, decide_false]
      exact fin _ _ _ _ _ _
  · have c1 : ¬ (i : Int) < (ch.length : Int) := by omega
    simp -implicitDefEqProofs only [l3_4, r3_3, opn_z, opn_s, sel_z, sel_s, qCd_eq, qIf_false, qG_ft, qPick_false, qLss_int, qLenL_sl, hlen, c1, decide_false]
    exact fin _ _ _ _ _ _
theorem ev_texts {ch : List Int} (tk : Tk) : ∃ H', EP4 3 [.sl (nums ch) tk] H0 = some (.val (.bool true) H') := by
  obtain ⟨w, H', h1, h2⟩ := ao_form (X := X) (D := OD2) (O := OF4) (S := PS) (al := [.sl (nums ch) tk]) (H := H0) e3 xf3 rfl rfl (Q := fun v _ => v = .bool true) (law3 ch tk)
  subst h2
  exact ⟨H', h1⟩
end T
