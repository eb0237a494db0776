import Derived.Test.YtphgikpdbaeeoaaDoorRyG
set_option linter.all false
set_option linter.unusedVariables false
set_option linter.unusedSimpArgs false
set_option maxRecDepth 10000
namespace T
open Go Go.Aes Go.Proofs

theorem idx55 (e : Nat) (h : e < 3) : indexOf X 55 (.agg [.str [10], .str [13], .str [13, 10]]) (.int .i64 (e : Int)) = some (.str (seps.getD e [])) := by
  match e, h with
  | 0, _ => show indexOf X 55 (.agg [.str [10], .str [13], .str [13, 10]]) (.int .i64 0) = some (.str (seps.getD 0 [])); kernel_rfl
  | 1, _ => show indexOf X 55 (.agg [.str [10], .str [13], .str [13, 10]]) (.int .i64 1) = some (.str (seps.getD 1 [])); kernel_rfl
  | 2, _ => show indexOf X 55 (.agg [.str [10], .str [13], .str [13, 10]]) (.int .i64 2) = some (.str (seps.getD 2 [])); kernel_rfl
theorem sep_in (e : Nat) (h : e < 3) : seps.getD e [] ∈ seps := by
  match e, h with
  | 0, _ => exact List.mem_cons_self ..
  | 1, _ => exact List.mem_cons_of_mem _ (List.mem_cons_self ..)
  | 2, _ => exact List.mem_cons_of_mem _ (List.mem_cons_of_mem _ (List.mem_cons_self ..))
theorem intAt {ns : List Int} {i : Nat} (h : i < ns.length) (tk : Tk) (H : AH) (k : AV → Prop) : (qIa 1 (.sl (iRows ns) tk) (.int .i64 (i : Int)) fun v => qLd v H k) = k (.int .i64 ns[i]) := by
  have hget : (iRows ns)[i]? = some [.int .i64 ns[i]] := by simp [iRows, h]
  rw [qIa_rows (tk := tk) (R := Prop) hget (n := 1) rfl]
  rfl
theorem sl_sp (p : Nat) (h : p ≤ 6) (k : AV → Prop) : qSlc Tryd.t9.desc 0 (.str [32,32,32,32,32,32,32,32,32,32]) none (some (.int .i64 (p : Int))) none k = k (.str (sp p)) := by
  rw [slcS_hi _ p (by simp; omega)]
  have e : ([32,32,32,32,32,32,32,32,32,32] : Str) = List.replicate 10 32 := rfl
  rw [e, List.take_replicate, Nat.min_eq_left (by omega)]
  rfl
def plc (ns : List Int) : List Nat := (ns.take 20).map fun z => (z % 7).toNat
theorem plc_le (ns : List Int) : ∀ p ∈ plc ns, p ≤ 6 := by
  intro p hp
  obtain ⟨z, _, rfl⟩ := List.mem_map.1 hp
  show (z % 7).toNat ≤ 6
  omega
theorem plc_at {ns : List Int} {j : Nat} (h : j < ns.length) (h2 : j < 20) : (plc ns)[j]? = some (ns[j] % 7).toNat := by
  unfold plc
  rw [List.getElem?_map, List.getElem?_take, if_pos h2, List.getElem?_eq_getElem h]; rfl
theorem plc_len (ns : List Int) : (plc ns).length = min 20 ns.length := by simp [plc]

set_option maxHeartbeats 2000000 in
theorem blocks_walk (ns : List Int) (tk : Tk) (v : Int) : c12 EP4 [.sl (iRows ns) tk, .int .i64 v] H0 (fun v _ => v = .bool true) := by
  have rl := iRows_len ns
  have e28 := fun H => up4 (ep28 H)
  obtain ⟨e, he⟩ : ∃ e : Nat, v % 3 = (e : Int) := ⟨(v % 3).toNat, by omega⟩
  have he3 : e < 3 := by omega
  have e26v := fun H => up4 (ep26 v 3 (by omega) (by omega) H)
  rw [he] at e26v
  have bq : ∀ k : AV → Prop, qBld z55 [(0, 1, (.str [10])), (1, 1, (.str [13])), (2, 1, (.str [13,10]))] k = k (.agg [.str [10], .str [13], .str [13, 10]]) := fun k => rfl
  have ix := idx55 e he3
  have hs := sep_in e he3
  generalize seps.getD e [] = sep at ix hs
  have hsl := sep_len hs
  have hp := plc_le ns
  have hpl := plc_len ns
  have hat := fun j h h2 => plc_at (ns := ns) (j := j) h h2
  generalize plc ns = ps at hp hpl hat
  simp -implicitDefEqProofs only [c12, r12_0, r12_1, r12_2, r12_3, r12_4, r12_5, opn_z, opn_s, qFn_eq, qBl_eq, qO_some, qRes_val, e26v, bq, ix]
  refine loop_inv (fun m fr H' => ∃ (j : Nat) (x1 x4 x5 x11 x12 x13 x26 x43 : AV), m = ps.length - j ∧ j ≤ ps.length ∧ fr = [.sl (iRows ns) tk, x1, x4, x5, .str sep, .str fst', .str fst', .int .i64 (((ps.take j).foldl min 99 : Nat) : Int), .int .i64 (j : Int), x11, x12, x13, x26, x43]) ?_ (m := ps.length) ?_
  case refine_2 => exact ⟨0, _, _, _, _, _, _, _, _, rfl, by omega, rfl⟩
  rintro m fr H1 k ⟨j, x1, x4, x5, x11, x12, x13, x26, x43, rfl, hj, rfl⟩ hk
  rcases Nat.lt_or_ge j ps.length with h | h
  · have c1 : (j : Int) < (ns.length : Int) := by omega
    have c2 : (j : Int) < 20 := by omega
    have ia := fun H k => intAt (ns := ns) (i := j) (by omega) tk H k
    have hpj := hat j (by omega) (by omega)
    obtain ⟨p, hpe⟩ : ∃ p, p = (ns[j] % 7).toNat := ⟨_, rfl⟩
    rw [← hpe] at hpj
    have e26 := fun H => up4 (ep26 ns[j] 7 (by omega) (by omega) H)
    rw [show ns[j] % 7 = (p : Int) by omega] at e26
    have hw := wrap_up j (by omega)
    have hm : min (((ps.take j).foldl min 99 : Nat) : Int) (p : Int) = (((ps.take (j + 1)).foldl min 99 : Nat) : Int) := by
      rw [take_succ' hpj, List.foldl_append]
      show _ = ((min ((ps.take j).foldl min 99) p : Nat) : Int)
      omega
    simp -implicitDefEqProofs only [l12_8, r12_6, r12_7, r12_8, opn_z, opn_s, sel_z, sel_s, qCd_eq, qIf_true, qBl_eq, qO_some, qRes_val, qPick_true, qG_tt, qLss_int, qAdd_int, qLenL_sl, foldO, min2_int, rl, c1, c2, decide_true, ia, e26, hm, hw]
    exact hk (ps.length - (j + 1)) _ _ (by omega) ⟨j + 1, _, _, _, _, _, _, _, _, rfl, h, rfl⟩
  have hall : ps.take j = ps := List.take_of_length_le h
  rw [hall]
  have hM := foldl_min_le ps 99
  have hblk := blk1 hp
  generalize ps.foldl min 99 = M at hM hblk ⊢
  have goal2 : ∀ (x1 x4 x5 x10 x11 x12 x13 x26 x43 : AV) , (r12_9 (r12_10 (qBl (fun k1 => (qLoop (l12_4 EP4 k1))) (r12_16 EP4 (fun fr (_ : AH) => sel 2 fr = .bool true))))) [.sl (iRows ns) tk, x1, x4, x5, .str sep, .str fst', .str fst', .int .i64 (M : Int), x10, x11, x12, x13, x26, x43] H1 := by
    intro x1 x4 x5 x10 x11 x12 x13 x26 x43
    simp -implicitDefEqProofs only [r12_9, r12_10, opn_z, opn_s, qBl_eq]
    refine loop_inv (fun m fr H' => ∃ (j : Nat) (x1 x4 x5 x10 x13 x26 x43 : AV), m = ps.length - j ∧ j ≤ ps.length ∧ fr = [.sl (iRows ns) tk, x1, x4, x5, .str sep, .str (fst' ++ TT sep (ps.take j) []), .str (fst' ++ UU M (ps.take j)), .int .i64 (M : Int), x10, .str [32,32,32,32,32,32,32,32,32,32], .int .i64 (j : Int), x13, x26, x43]) ?_ (m := ps.length) ?_
    case refine_2 => exact ⟨0, _, _, _, _, _, _, _, rfl, by omega, rfl⟩
    rintro m fr H2 k2 ⟨i, x1, x4, x5, x10, x13, x26, x43, rfl, hi, rfl⟩ hk2
    have hpt : ∀ p ∈ ps.take i, p ≤ 6 := fun p h => hp p (List.mem_of_mem_take h)
    have lA := TT_len hs (ps.take i) hpt
    have lB := UU_len M (ps.take i) hpt
    have lt20 : (ps.take i).length ≤ 20 := by simp; omega
    have lf : fst'.length = 5 := rfl
    have lA2 : (fst' ++ TT sep (ps.take i) []).length ≤ 1000 := by rw [List.length_append]; omega
    have lB2 : (fst' ++ UU M (ps.take i)).length ≤ 1000 := by rw [List.length_append]; omega
    rcases Nat.lt_or_ge i ps.length with h3 | h3
    · have c1 : (i : Int) < (ns.length : Int) := by omega
      have c2 : (i : Int) < 20 := by omega
      have ia := fun H k => intAt (ns := ns) (i := i) (by omega) tk H k
      have hpi := hat i (by omega) (by omega)
      obtain ⟨p, hpe⟩ : ∃ p, p = (ns[i] % 7).toNat := ⟨_, rfl⟩
      rw [← hpe] at hpi
      have e26 := fun H => up4 (ep26 ns[i] 7 (by omega) (by omega) H)
      rw [show ns[i] % 7 = (p : Int) by omega] at e26
      have hw := wrap_up i (by omega)
      have hp6 := hp p (List.mem_of_getElem? hpi)
      have hMp := hM.2 p (List.mem_of_getElem? hpi)
      have hws : IntKind.i64.wrap ((p : Int) - (M : Int)) = ((p - M : Nat) : Int) := by rw [i64_in' (by omega)]; omega
      have s1 := fun k => sl_sp p hp6 k
      have s2 := fun k => sl_sp (p - M) (by omega) k
      have lp : (sp p).length = p := by simp [sp]
      have lq : (sp (p - M)).length = p - M := by simp [sp]
      have tA := TT_snoc sep p (ps.take i)
      have tB := UU_snoc M (ps.take i) p
      rw [← take_succ' hpi] at tA tB
      have rA : fst' ++ TT sep (ps.take i) [] ++ sep ++ sp p ++ [120] = fst' ++ TT sep (ps.take (i + 1)) [] := by rw [tA]; simp
      have rB : fst' ++ UU M (ps.take i) ++ [10] ++ sp (p - M) ++ [120] = fst' ++ UU M (ps.take (i + 1)) := by rw [tB]; simp
      have q1 := fun k => qAdd_str (R := Prop) X 9 (fst' ++ TT sep (ps.take i) []) sep (by unfold most; omega) k
      have q2 := fun k => qAdd_str (R := Prop) X 9 (fst' ++ TT sep (ps.take i) [] ++ sep) (sp p) (by unfold most; rw [List.length_append]; omega) k
      have q3 := fun k => qAdd_str (R := Prop) X 9 (fst' ++ TT sep (ps.take i) [] ++ sep ++ sp p) [120] (by unfold most; rw [List.length_append, List.length_append]; simp only [List.length_cons, List.length_nil]; omega) k
      have q4 := fun k => qAdd_str (R := Prop) X 9 (fst' ++ UU M (ps.take i)) [10] (by unfold most; simp only [List.length_cons, List.length_nil]; omega) k
      have q5 := fun k => qAdd_str (R := Prop) X 9 (fst' ++ UU M (ps.take i) ++ [10]) (sp (p - M)) (by unfold most; rw [List.length_append]; simp only [List.length_cons, List.length_nil]; omega) k
      have q6 := fun k => qAdd_str (R := Prop) X 9 (fst' ++ UU M (ps.take i) ++ [10] ++ sp (p - M)) [120] (by unfold most; rw [List.length_append, List.length_append]; simp only [List.length_cons, List.length_nil]; omega) k
      rw [rA] at q3
      rw [rB] at q6
      simp -implicitDefEqProofs only [l12_4, r12_11, r12_12, r12_13, r12_14, r12_15, opn_z, opn_s, sel_z, sel_s, qCd_eq, qIf_true, qBl_eq, qRes_val, qPick_true, qG_tt, qLss_int, qAdd_int, qSub_int, qLenL_sl, rl, c1, c2, decide_true, ia, e26, s1, s2, hws, q1, q2, q3, q4, q5, q6, hw]
      exact hk2 (ps.length - (i + 1)) _ _ (by omega) ⟨i + 1, _, _, _, _, _, _, _, rfl, h3, rfl⟩
    have hall2 : ps.take i = ps := List.take_of_length_le h3
    rw [hall2] at lA2 lB2 ⊢
    have e38a : ∀ H, EP4 38 [.str (fst' ++ TT sep ps [])] H = some (.val (.str (fst' ++ UU M ps)) H) := fun H => by
      rw [ep38s _ (by omega) H]
      unfold blockF
      rw [lin1 hs, hblk]
    have e38c : ∀ H, EP4 38 [.str (sep ++ (fst' ++ TT sep ps []))] H = some (.val (.str (Lib.join (fst' :: ps.map ln) [10])) H) := fun H => by
      rw [ep38s _ (by rw [List.length_append]; omega) H]
      unfold blockF
      rw [lin3 hs, blk3]
    have e2 : sep ++ [32, 32] ++ sep ++ (fst' ++ TT sep ps []) ++ sep ++ sep ++ [32, 32, 32] = sep ++ ([32, 32] ++ (sep ++ (fst' ++ TT sep ps (sep ++ (sep ++ [32, 32, 32]))))) := by
      rw [TT_app sep (sep ++ (sep ++ [32, 32, 32]))]; simp
    have e38b : ∀ H, EP4 38 [.str (sep ++ [32, 32] ++ sep ++ (fst' ++ TT sep ps []) ++ sep ++ sep ++ [32, 32, 32])] H = some (.val (.str (Lib.join (fst' :: ps.map ln) [10])) H) := fun H => by
      rw [ep38s _ (by simp only [List.length_append, List.length_cons, List.length_nil] at lA2 ⊢; omega) H]
      unfold blockF
      rw [e2, lin2 hs, blk2]
    have qs : ∀ (a : Str) (k : AV → Prop), qEql X 9 (.str a) (.str a) k = k (.bool true) := fun a k => by rw [qEql_str]; simp
    generalize hA : fst' ++ TT sep ps [] = A at *
    generalize fst' ++ UU M ps = Bb at *
    have q1 := fun k => qAdd_str (R := Prop) X 9 sep [32, 32] (by unfold most; simp only [List.length_cons, List.length_nil]; omega) k
    have q2 := fun k => qAdd_str (R := Prop) X 9 (sep ++ [32, 32]) sep (by unfold most; simp only [List.length_append, List.length_cons, List.length_nil]; omega) k
    have q3 := fun k => qAdd_str (R := Prop) X 9 (sep ++ [32, 32] ++ sep) A (by unfold most; simp only [List.length_append, List.length_cons, List.length_nil]; omega) k
    have q4 := fun k => qAdd_str (R := Prop) X 9 (sep ++ [32, 32] ++ sep ++ A) sep (by unfold most; simp only [List.length_append, List.length_cons, List.length_nil]; omega) k
    have q5 := fun k => qAdd_str (R := Prop) X 9 (sep ++ [32, 32] ++ sep ++ A ++ sep) sep (by unfold most; simp only [List.length_append, List.length_cons, List.length_nil]; omega) k
    have q6 := fun k => qAdd_str (R := Prop) X 9 (sep ++ [32, 32] ++ sep ++ A ++ sep ++ sep) [32, 32, 32] (by unfold most; simp only [List.length_append, List.length_cons, List.length_nil]; omega) k
    have q7 := fun k => qAdd_str (R := Prop) X 9 sep A (by unfold most; omega) k
    by_cases c1 : (i : Int) < (ns.length : Int)
    · have c2 : ¬ (i : Int) < 20 := by omega
      simp -implicitDefEqProofs only [l12_4, r12_11, r12_16, opn_z, opn_s, sel_z, sel_s, qCd_eq, qIf_false, qBl_eq, qRes_val, qPick_true, qG_tt, qLss_int, qLenL_sl, rl, c1, c2, decide_true, decide_false, e38a, e38b, e38c, qs, q1, q2, q3, q4, q5, q6, q7, e28]
    · simp -implicitDefEqProofs only [l12_4, r12_11, r12_16, opn_z, opn_s, sel_z, sel_s, qCd_eq, qIf_false, qBl_eq, qRes_val, qPick_true, qPick_false, qG_tt, qG_ft, qLss_int, qLenL_sl, rl, c1, decide_false, e38a, e38b, e38c, qs, q1, q2, q3, q4, q5, q6, q7, e28]
  by_cases c1 : (j : Int) < (ns.length : Int)
  · have c2 : ¬ (j : Int) < 20 := by omega
    simp -implicitDefEqProofs only [l12_8, r12_6, qCd_eq, qIf_false, qPick_true, qG_tt, opn_s, opn_z, sel_s, sel_z, qLenL_sl, qLss_int, rl, c1, c2, decide_true, decide_false]
    (first | exact goal2 _ _ _ _ _ _ _ _ _ | (apply goal2 <;> exact Aes.undef))
  · simp -implicitDefEqProofs only [l12_8, r12_6, qCd_eq, qIf_false, qPick_false, qG_ft, opn_s, opn_z, sel_s, sel_z, qLenL_sl, qLss_int, rl, c1, decide_false]
    (first | exact goal2 _ _ _ _ _ _ _ _ _ | (apply goal2 <;> exact Aes.undef))

theorem ev_blocks (ns : List Int) (tk : Tk) (v : Int) : ∃ H', EP4 12 [.sl (iRows ns) tk, .int .i64 v] H0 = some (.val (.bool true) H') := by
  obtain ⟨w, H', h1, h2⟩ := ao_form (X := X) (D := OD2) (O := OF4) (S := PS) (al := [.sl (iRows ns) tk, .int .i64 v]) (H := H0) e12 xf12 rfl rfl (Q := fun v _ => v = .bool true) (blocks_walk ns tk v)
  subst h2
  exact ⟨H', h1⟩
end T
