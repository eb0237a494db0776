import Derived.Test.YtnmljkjdflfdoaaDoorJrX2
set_option linter.all false
set_option linter.unusedVariables false
set_option linter.unusedSimpArgs false
set_option maxRecDepth 10000
namespace T
open Go Go.Aes Go.Proofs

/-! ### a value -/
theorem rowsOf_flat : ∀ (rows : List (List AV)), (∀ x ∈ rows, x.length = 4) → rowsOf 4 rows.length rows.flatten = rows
  | [], _ => rfl
  | a :: l, h => by
    have ha : a.length = 4 := h a (by simp)
    have ih := rowsOf_flat l (fun x hx => h x (by simp [hx]))
    simp only [List.length_cons, rowsOf, List.flatten_cons]
    rw [show (4 : Nat) = a.length from ha.symm, List.take_left, List.drop_left]
    rw [show rowsOf a.length l.length l.flatten = l by rw [ha]; exact ih]
theorem frz_lv {H : AH} [IsFn H] {lv : AV} {rows : List (List AV)} (h : LV H lv rows) (h4 : ∀ x ∈ rows, x.length = 4) :
    ∃ tk, (frz1 lv H).1 = .sl rows tk ∧ IsFn (frz1 lv H).2 ∧ (frz1 lv H).2.nx = H.nx ∧ ∀ i, ¬ lvAt lv i → (frz1 lv H).2.get i = H.get i := by
  rcases h with ⟨rfl, rfl⟩ | ⟨hne, j, rfl, hg⟩
  · exact ⟨.nil, rfl, ‹IsFn H›, rfl, fun i _ => rfl⟩
  · have hi := lt_i hg
    have hb : ((rows.length * 4).ble rows.flatten.length && H.okI j) = true := by
      rw [okI_i hi, Bool.and_true, Nat.ble_eq, flat4 h4]; exact Nat.le_refl _
    have he : frz1 (.hsl j 0 rows.length rows.length 4 true) H = (.sl rows .dead, H.set j none) := by
      unfold frz1
      simp only []
      rw [show (true && Nat.beq 0 0 && !Nat.beq 4 0) = true from rfl]
      simp only [cond_true, hg, hb, rowsOf_flat rows h4]
    rw [he]
    exact ⟨.dead, rfl, inferInstance, AH.nx_set .., fun i hn => by
      rw [get_set_i hi, if_neg]
      rintro rfl
      exact hn ⟨_, rfl⟩⟩
theorem frz_cs {Hs : AH} [IsFn Hs] {r : Nat} {s : Str} {d t : Bool} {k : Int} {ns : List Str} {vs : List Val} {nv lv : AV} {rows : List (List AV)} {H0 : AH} (hs : Sr H0 Hs r s d t) (hr : r < H0.nx) (hlv : LV Hs lv rows) (hnv : ∃ tk, nv = .sl (strRows ns) tk) (hev : EVs vs rows) (hnl : ∀ i, lvAt lv i → H0.nx ≤ i) :
    EV (.mk k [] ns vs) (frzL [.int .i64 k, .str [], nv, lv] Hs).1 ∧ Sr H0 (frzL [.int .i64 k, .str [], nv, lv] Hs).2 r s d t := by
  obtain ⟨tk1, rfl⟩ := hnv
  obtain ⟨tk, h1, h2, h3, h4⟩ := frz_lv hlv (EVs.four hev)
  have e1 : (frzL [.int .i64 k, .str [], .sl (strRows ns) tk1, lv] Hs).1 = [.int .i64 k, .str [], .sl (strRows ns) tk1, (frz1 lv Hs).1] := rfl
  have e2 : (frzL [.int .i64 k, .str [], .sl (strRows ns) tk1, lv] Hs).2 = (frz1 lv Hs).2 := rfl
  rw [e1, e2, h1]
  refine ⟨⟨_, _, _, rfl, hev⟩, ⟨⟨h2, by rw [h3]; exact hs.kp.nx, fun i hi hp => ?_⟩, ?_⟩⟩
  · rw [h4 i (fun e => by have := hnl i e; omega)]
    exact hs.kp.keep i hi hp
  · rw [h4 r (fun e => by have := hnl r e; omega)]
    exact hs.at_

theorem gt12 (n : Nat) : (decide ((n : Int) > 12)) = decide (12 < n) := by
  by_cases h : 12 < n
  · rw [decide_eq_true h, decide_eq_true (by omega)]
  · rw [decide_eq_false h, decide_eq_false (by omega)]
theorem qSt_d {R : Type} [Mon R] {H : AH} [IsFn H] {r : Nat} {s : Str} {d t : Bool} (hg : H.get r = some (rs s d t)) (b : Bool) (k : AV → AH → R) : qSt 1 (.ptr r 1) (.bool b) H k = k Aes.undef (H.set r (some (rs s b t))) := qSt_1 (o := 1) (v := .bool b) hg (by simp) rfl k
theorem st22 {H : AH} [i0 : IsFn H] {r : Nat} {s : Str} {d t : Bool} (hg : H.get r = some (rs s d t)) (deep : Nat) : ∃ rb db vi Hb, IsFn Hb ∧
    (∀ {kk : KT RP} {P : AV → AH → Prop} (x5 x6 x7 x19 x27 x36 : AV), (∀ x5 x6 x7 x19 x27 x36 : AV, kk [.ptr r 0, .int .i64 (deep : Int), .ptr rb 0, .ptr db 0, .ptr vi 0, x5, x6, x7, x19, x27, x36] Hb P) →
      ∀ y2 y3 y4 : AV, r22_0 (R := RP) (r22_1 kk) [.ptr r 0, .int .i64 (deep : Int), y2, y3, y4, x5, x6, x7, x19, x27, x36] H P) ∧
    Sr H Hb r s (d || decide (12 < deep)) t ∧ Hb.get rb = some (.cells [.ptr r 0]) ∧ Hb.get db = some (.cells [.int .i64 (deep : Int)]) ∧ Hb.get vi = some (.cells z26) ∧ rb ≠ r ∧ db ≠ r ∧ vi ≠ r ∧ H.nx ≤ vi := by
  have hr := lt_i hg
  have a1 := get_push_at (H := H) (.cells [.ptr r 0])
  have g1 : (H.push (.cells [.ptr r 0])).get r = some (rs s d t) := by rw [get_push_lt _ hr]; exact hg
  have b1 : ∀ k : AV → AH → RP, qBox (.ptr r 0) H k = k (.ptr H.nx 0) (H.push (.cells [.ptr r 0])) := fun k => qBox_i ..
  have k1 := Kp.push (H := H) (.cells [.ptr r 0]) (· = r)
  have n1 := nx_push_i (H := H) (o := .cells [.ptr r 0])
  generalize H.push (.cells [.ptr r 0]) = H1 at a1 g1 b1 k1 n1
  have i1 := k1.fn
  have b2 : ∀ k : AV → AH → RP, qBox (.int .i64 (deep : Int)) H1 k = k (.ptr H1.nx 0) (H1.push (.cells [.int .i64 (deep : Int)])) := fun k => qBox_i ..
  have a2 := get_push_at (H := H1) (.cells [.int .i64 (deep : Int)])
  have g2 : (H1.push (.cells [.int .i64 (deep : Int)])).get r = some (rs s d t) := by rw [get_push_lt _ (by omega)]; exact g1
  have a12 : (H1.push (.cells [.int .i64 (deep : Int)])).get H.nx = some (.cells [.ptr r 0]) := by rw [get_push_lt _ (by omega)]; exact a1
  have k2 := Kp.push (H := H1) (.cells [.int .i64 (deep : Int)]) (· = r)
  have n2 := nx_push_i (H := H1) (o := .cells [.int .i64 (deep : Int)])
  generalize H1.push (.cells [.int .i64 (deep : Int)]) = H2 at a2 g2 a12 b2 k2 n2
  have i2 := k2.fn
  have b3 : ∀ k : AV → AH → RP, qNew (.cells z26) .ptr H2 k = k (.ptr H2.nx 0) (H2.push (.cells z26)) := fun k => by rw [qNew_i]; rfl
  have a3 := get_push_at (H := H2) (.cells z26)
  have g3 : (H2.push (.cells z26)).get r = some (rs s d t) := by rw [get_push_lt _ (by omega)]; exact g2
  have a13 : (H2.push (.cells z26)).get H.nx = some (.cells [.ptr r 0]) := by rw [get_push_lt _ (by omega)]; exact a12
  have a23 : (H2.push (.cells z26)).get H1.nx = some (.cells [.int .i64 (deep : Int)]) := by rw [get_push_lt _ (by omega)]; exact a2
  have k3 := Kp.push (H := H2) (.cells z26) (· = r)
  have n3 := nx_push_i (H := H2) (o := .cells z26)
  generalize H2.push (.cells z26) = H3 at a3 g3 a13 a23 b3 k3 n3
  have i3 := k3.fn
  have s3 : Sr H H3 r s d t := ⟨(k1.trans k2 (fun _ _ h => h)).trans k3 (fun _ _ h => h), g3⟩
  have s4 := Sr.set (s' := s) (d' := d || decide (12 < deep)) (t' := t) g3
  have st := fun (k' : AV → AH → RP) => qSt_d g3 (d || decide (12 < deep)) k'
  have hr3 : r < H3.nx := by omega
  refine ⟨H.nx, H1.nx, H2.nx, H3.set r (some (rs s (d || decide (12 < deep)) t)), inferInstance, ?_, s3.trans s4, ?_, ?_, ?_, by omega, by omega, by omega, by omega⟩
  · intro kk P x5 x6 x7 x19 x27 x36 hk y2 y3 y4
    have l1 := fun (k' : AV → RP) => ldR a13 0 (.ptr r 0) rfl k'
    have l2 := fun (k' : AV → RP) => ldR a23 0 (.int .i64 (deep : Int)) rfl k'
    have l3 := fun (k' : AV → RP) => ldR g3 1 (.bool d) rfl k'
    have hgt := gt12 deep
    cases hd : d with
    | true =>
      rw [hd] at l3 st hk
      simp only [Bool.true_or] at st hk
      simp -implicitDefEqProofs only [r22_0, r22_1, opn_z, opn_s, sel_z, sel_s, qCd_eq, qIf_true, qIf_false, qFn_eq, qBl_eq, qO_some, qRes_val, qHp_some, qPick_true, qPick_false, qG_tt, qG_ff, qG_tf, qG_ft, cellsK_some, qLd_vptr, qLdA_vptr, qFa_ptr, qFa_vptr, qNc_ptr, qNc_vptr, qNc_fn, qNot_bool, qExt_tup, qCallV_fn, qLss_int, qLeq_int, qGtr_int, qGeq_int, qEql_int, qNeq_int, qAdd_int, qSub_int, qMul_int, qConvI_int, qLenL_sl, qLenL_hsl, qLenS_str, foldO, min2_int, max2_int, qSame_refl, Nat.zero_add, List.getElem?_cons_zero, List.getElem?_cons_succ, List.nil_append, List.cons_append, List.append_nil, one_bool, one_int, one_str, one_nilp, one_ptr, one_sl, one_hsl, one_map, one_fn, List.length_cons, List.length_nil, List.set_cons_zero, List.set_cons_succ, Nat.reduceLT, Nat.reduceAdd, qG_un, qResN_val, qCallVN_fn, b1, b2, b3, l1, l2, l3, st]
      exact hk ..
    | false =>
      rw [hd] at l3 st hk
      simp only [Bool.false_or] at st hk
      simp -implicitDefEqProofs only [r22_0, r22_1, opn_z, opn_s, sel_z, sel_s, qCd_eq, qIf_true, qIf_false, qFn_eq, qBl_eq, qO_some, qRes_val, qHp_some, qPick_true, qPick_false, qG_tt, qG_ff, qG_tf, qG_ft, cellsK_some, qLd_vptr, qLdA_vptr, qFa_ptr, qFa_vptr, qNc_ptr, qNc_vptr, qNc_fn, qNot_bool, qExt_tup, qCallV_fn, qLss_int, qLeq_int, qGtr_int, qGeq_int, qEql_int, qNeq_int, qAdd_int, qSub_int, qMul_int, qConvI_int, qLenL_sl, qLenL_hsl, qLenS_str, foldO, min2_int, max2_int, qSame_refl, Nat.zero_add, List.getElem?_cons_zero, List.getElem?_cons_succ, List.nil_append, List.cons_append, List.append_nil, one_bool, one_int, one_str, one_nilp, one_ptr, one_sl, one_hsl, one_map, one_fn, List.length_cons, List.length_nil, List.set_cons_zero, List.set_cons_succ, Nat.reduceLT, Nat.reduceAdd, qG_un, qResN_val, qCallVN_fn, b1, b2, b3, l1, l2, l3, hgt, st]
      exact hk ..
  · rw [get_set_i hr3, if_neg (by omega)]; exact a13
  · rw [get_set_i hr3, if_neg (by omega)]; exact a23
  · rw [get_set_i hr3, if_neg (by omega)]; exact a3
end T
set_option linter.unusedVariables false
set_option linter.unusedSimpArgs false
set_option maxRecDepth 10000
namespace T
open Go Go.Aes Go.Proofs

theorem fin22 {o : Bool} {H Hb H' : AH} {r rb db vc sc mp vi : Nat} {deep : Nat} {k : Int} {j : JS} {ms : List Str} {nv lv : AV} {rows : List (List AV)} {s : Str} {d t : Bool} (h : LI o Hb H' r rb db vc sc mp deep k j ms nv lv rows) (s0 : Sr H Hb r s d t) (hvi : Hb.get vi = some (.cells z26)) (hne : vi ≠ r) (hx : H.nx ≤ vi) (hr : r < H.nx) :
    ∃ Hs, (∀ (kk : AV → AH → RP), qSt 4 (.ptr vi 0) (.agg [.int .i64 k, .str [], nv, lv]) H' kk = kk Aes.undef Hs) ∧ (∀ kk : AV → RP, qLdA 4 (.ptr vi 0) Hs kk = kk (.agg [.int .i64 k, .str [], nv, lv])) ∧
      EV (.mk k [] j.ns j.vs) (frzL [.int .i64 k, .str [], nv, lv] Hs).1 ∧ Sr H (frzL [.int .i64 k, .str [], nv, lv] Hs).2 r j.s j.d j.t := by
  have i1 := h.fn
  have ib := h.fb
  have hvb := lt_i hvi
  have gvi : H'.get vi = some (.cells z26) := (h.sr.kp.keep vi hvb hne).trans hvi
  have hone : allOne [.int .i64 k, .str [], nv, lv] = true := by
    simp only [allOne_cons, one_int, one_str, h.hnv.one, h.hlv.one]; rfl
  have sp := (s0.trans h.sr).put gvi (Ne.symm hne) hx (.cells [.int .i64 k, .str [], nv, lv])
  refine ⟨H'.set vi (some (.cells [.int .i64 k, .str [], nv, lv])), fun kk => qSt_whole (n := 4) (l := [.int .i64 k, .str [], nv, lv]) gvi rfl rfl hone kk, fun kk => qLdA_whole sp.2 rfl kk, ?_⟩
  have nx1 := s0.kp.nx
  refine frz_cs sp.1 hr (h.hlv.keep fun i hi => ?_) h.hnv.sl h.hev (fun i hi => by have := (h.nl i hi).1; omega)
  have := (h.nl i hi).1
  rw [get_set_i (lt_i gvi), if_neg (by omega)]
theorem mapV {H : AH} [i0 : IsFn H] {r vc : Nat} {s : Str} {d t : Bool} {o : AO} (hg : H.get r = some (rs s d t)) (hv : H.get vc = some o) : ∃ mp sc Ha Hb Hc, (∀ k : AV → AH → RP, qNew (.map []) .map H k = k (.map (some mp)) Ha) ∧ (∀ k : AV → AH → RP, qNew (.cells z66) .ptr Ha k = k (.ptr sc 0) Hb) ∧ (∀ k : AV → AH → RP, qSt 1 (.ptr sc 0) (.map (some mp)) Hb k = k Aes.undef Hc) ∧
    IsFn Hc ∧ Sr H Hc r s d t ∧ Hc.get vc = some o ∧ Hc.get sc = some (.cells [.map (some mp)]) ∧ Hc.get mp = some (.map (setE [])) ∧ H.nx ≤ sc ∧ H.nx ≤ mp := by
  have hr := lt_i hg
  have hvc := lt_i hv
  have n1 := nx_push_i (H := H) (o := .map [])
  have n2 := nx_push_i (H := H.push (.map [])) (o := .cells z66)
  have a1 := get_push_at (H := H) (.map [])
  have a2 := get_push_at (H := H.push (.map [])) (.cells z66)
  have lt2 := lt_i a2
  have old : ∀ i ob, H.get i = some ob → (((H.push (.map [])).push (.cells z66)).set (H.push (.map [])).nx (some (.cells [.map (some H.nx)]))).get i = some ob := fun i ob hi => by
    have := lt_i hi
    rw [get_set_i lt2, if_neg (by omega), get_push_lt _ (by omega), get_push_lt _ (by omega)]; exact hi
  refine ⟨H.nx, (H.push (.map [])).nx, H.push (.map []), (H.push (.map [])).push (.cells z66), ((H.push (.map [])).push (.cells z66)).set (H.push (.map [])).nx (some (.cells [.map (some H.nx)])), fun k => by rw [qNew_i]; rfl, fun k => by rw [qNew_i]; rfl, fun k => qSt_1 (o := 0) (v := .map (some H.nx)) a2 (by simp [z66]) rfl k, inferInstance,
    ⟨⟨inferInstance, by rw [AH.nx_set]; omega, fun i hi _ => ?_⟩, old _ _ hg⟩, old _ _ hv, by rw [get_set_i lt2, if_pos rfl], ?_, by omega, Nat.le_refl _⟩
  · rw [get_set_i lt2, if_neg (by omega), get_push_lt _ (by omega), get_push_lt _ (by omega)]
  · rw [get_set_i lt2, if_neg (by omega), get_push_lt _ (by omega)]; exact a1

theorem bld1 {R : Type} [Mon R] (k : Int) (kk : AV → R) : qBld z26 [(0, 1, .int .i64 k)] kk = kk (.agg (valRow k [])) := by kernel_rfl
theorem bld2 {R : Type} [Mon R] (k : Int) (x : Str) (kk : AV → R) : qBld z26 [(0, 1, .int .i64 k), (1, 1, .str x)] kk = kk (.agg (valRow k x)) := by kernel_rfl
theorem frz_row (k : Int) (x : Str) (H : AH) : frzL (valRow k x) H = (valRow k x, H) := rfl

theorem vok {n : Nat} (hv : ∀ m, m < n → VOk m) : VOk n := by
  intro deep s d t r H i0 hg hn hd
  obtain ⟨n, rfl⟩ : ∃ m, n = m + 1 := ⟨n - 1, by omega⟩
  have hls : ∀ o, JLs n o := fun o => ls33 (fun m' h' => hv m' (by omega)) o
  have hr := lt_i hg
  generalize hT : valF (n + 1) deep s d t = T
  unfold valF at hT
  have key := panz_form (X := X) (D := DJ) (O := EP3) (S := PJ) (Z := ZJ) e22 xf22 (al := [.ptr r 0, .int .i64 (deep : Int)]) (H := H) rfl rfl rfl
    (Q := fun v H' => ∃ q row, T = some q ∧ v = .agg row ∧ EV q.1 row ∧ Sr H H' r q.2.1 q.2.2.1 q.2.2.2)
    (PP := fun v H' => T = none ∧ v = Wr ∧ Kp H H' (· = r)) ?_
  · rcases key with ⟨v, H', h1, q, row, rfl, rfl, h3, h4⟩ | ⟨v, H', h1, rfl, rfl, h3⟩
    · exact ⟨H', row, h1, h3, h4⟩
    · exact ⟨H', h1, h3⟩
  obtain ⟨rb, db, vi, Hb, ib, st, s0, gb, gd, gv, ne1, ne2, ne3, hx⟩ := st22 hg deep
  generalize (d || decide (12 < deep)) = d' at st s0 hT
  have hbx := s0.kp.nx
  have hvb := lt_i gv
  simp -implicitDefEqProofs only [c22, opn_z, opn_s, sel_z, sel_s, qCd_eq, qIf_true, qIf_false, qFn_eq, qBl_eq, qO_some, qRes_val, qHp_some, qPick_true, qPick_false, qG_tt, qG_ff, qG_tf, qG_ft, cellsK_some, qLd_vptr, qLdA_vptr, qFa_ptr, qFa_vptr, qNc_ptr, qNc_vptr, qNc_fn, qNot_bool, qExt_tup, qCallV_fn, qLss_int, qLeq_int, qGtr_int, qGeq_int, qEql_int, qNeq_int, qAdd_int, qSub_int, qMul_int, qConvI_int, qLenL_sl, qLenL_hsl, qLenS_str, foldO, min2_int, max2_int, qSame_refl, Nat.zero_add, List.getElem?_cons_zero, List.getElem?_cons_succ, List.nil_append, List.cons_append, List.append_nil, one_bool, one_int, one_str, one_nilp, one_ptr, one_sl, one_hsl, one_map, one_fn, List.length_cons, List.length_nil, List.set_cons_zero, List.set_cons_succ, Nat.reduceLT, Nat.reduceAdd, qG_un, qResN_val, qCallVN_fn]
  refine st _ _ _ _ _ _ (fun x5 x6 x7 x19 x27 x36 => ?_) _ _ _
  obtain ⟨H1, h32, s1⟩ := j32 s0.at_ [91]
  have i1 := s1.fn
  have l1 := fun (k' : AV → RP) => ldR gb 0 (.ptr r 0) rfl k'
  have hle := hasS_le s [91]
  have gb1 := s1.other gb ne1
  have l2 := fun (k' : AV → RP) => ldR gb1 0 (.ptr r 0) rfl k'
  cases hc : hasB s [91] with
  | true =>
    rw [hc] at h32
    rw [if_pos hc] at hT
    have hlt := hasS_lt hc
    obtain ⟨vc, H2, i2, n2, s2, g2, hne2, hle2⟩ := cellV s1.at_
    have sp := (s1.trans s2).put g2 hne2 (Nat.le_trans s1.kp.nx hle2) (.cells (valRow 7 []))
    have st2 := fun (kk : AV → AH → RP) => qSt_whole (n := 4) (l := valRow 7 []) g2 rfl rfl rfl kk
    generalize H2.set vc (some (.cells (valRow 7 []))) = H3 at sp st2
    obtain ⟨s3, g3⟩ := sp
    have i3 := s3.fn
    have nx3 := s1.kp.nx
    have li : LI false Hb H3 r rb db vc 0 0 deep 7 ⟨hasS s [91], d', t, [], []⟩ (dd []) (.sl [] .nil) (.sl [] .nil) [] :=
      { sr := s3, hr := by omega, fb := ib, hrb := gb, hdb := gd, hvc := g3, hev := rfl, hlv := .inl ⟨rfl, rfl⟩, hnv := .nil, nrb := ne1, ndb := ne2, nvc := by omega
        nl := fun i ⟨n, e⟩ => by cases e
        nt := fun i ⟨n, e⟩ => by cases e
        hsc := fun h => by cases h
        hmp := fun h => by cases h }
    have l3 := fun (k' : AV → RP) => ldR li.grb 0 (.ptr r 0) rfl k'
    rcases hls false deep Hb H3 r rb db vc 0 0 7 _ _ _ _ li (by simp only []; omega) ⟨by simp only []; omega, by simp only [List.length_nil]; omega, by simp only [List.length_nil]; omega⟩ with ⟨j', H4, nv', lv', rows', hl, h33, g4⟩ | ⟨H4, hl, h33, kp⟩
    · rw [hl] at hT
      simp only [Option.map_some] at hT
      have h33' : EJ 33 [.ptr r 0, .str [93], .fn (.func 34) [] [.ptr vc 0, .ptr rb 0, .ptr db 0]] H3 = some (.val (.tup []) H4) := h33
      obtain ⟨Hs, w1, w2, w3, w4⟩ := fin22 g4 s0 gv ne3 hx hr
      have l4 := fun (kk : AV → RP) => qLdA_whole (n := 4) g4.hvc rfl kk
      simp -implicitDefEqProofs only [r22_2, r22_3, r22_4, r22_5, opn_z, opn_s, sel_z, sel_s, qCd_eq, qIf_true, qIf_false, qFn_eq, qBl_eq, qO_some, qRes_val, qHp_some, qPick_true, qPick_false, qG_tt, qG_ff, qG_tf, qG_ft, cellsK_some, qLd_vptr, qLdA_vptr, qFa_ptr, qFa_vptr, qNc_ptr, qNc_vptr, qNc_fn, qNot_bool, qExt_tup, qCallV_fn, qLss_int, qLeq_int, qGtr_int, qGeq_int, qEql_int, qNeq_int, qAdd_int, qSub_int, qMul_int, qConvI_int, qLenL_sl, qLenL_hsl, qLenS_str, foldO, min2_int, max2_int, qSame_refl, Nat.zero_add, List.getElem?_cons_zero, List.getElem?_cons_succ, List.nil_append, List.cons_append, List.append_nil, one_bool, one_int, one_str, one_nilp, one_ptr, one_sl, one_hsl, one_map, one_fn, List.length_cons, List.length_nil, List.set_cons_zero, List.set_cons_succ, Nat.reduceLT, Nat.reduceAdd, qG_un, qResN_val, qCallVN_fn, l1, h32, bld1, n2, st2, l3, h33', l4, w1, w2, qPtr_ptr]
      exact ⟨_, rfl, _, _, hT.symm, rfl, w3, w4⟩
    · rw [hl] at hT
      simp only [Option.map_none] at hT
      have h33' : EJ 33 [.ptr r 0, .str [93], .fn (.func 34) [] [.ptr vc 0, .ptr rb 0, .ptr db 0]] H3 = some (.panic Wr H4) := h33
      simp -implicitDefEqProofs only [r22_2, r22_3, r22_4, opn_z, opn_s, sel_z, sel_s, qCd_eq, qIf_true, qIf_false, qFn_eq, qBl_eq, qO_some, qRes_val, qHp_some, qPick_true, qPick_false, qG_tt, qG_ff, qG_tf, qG_ft, cellsK_some, qLd_vptr, qLdA_vptr, qFa_ptr, qFa_vptr, qNc_ptr, qNc_vptr, qNc_fn, qNot_bool, qExt_tup, qCallV_fn, qLss_int, qLeq_int, qGtr_int, qGeq_int, qEql_int, qNeq_int, qAdd_int, qSub_int, qMul_int, qConvI_int, qLenL_sl, qLenL_hsl, qLenS_str, foldO, min2_int, max2_int, qSame_refl, Nat.zero_add, List.getElem?_cons_zero, List.getElem?_cons_succ, List.nil_append, List.cons_append, List.append_nil, one_bool, one_int, one_str, one_nilp, one_ptr, one_sl, one_hsl, one_map, one_fn, List.length_cons, List.length_nil, List.set_cons_zero, List.set_cons_succ, Nat.reduceLT, Nat.reduceAdd, qG_un, qResN_val, qCallVN_fn, l1, h32, bld1, n2, st2, l3, h33', qRes_pan, rp_pan]
      exact ⟨hT.symm, trivial, s0.kp.trans kp (fun _ _ h => h)⟩
  | false =>
    rw [hc] at h32
    rw [if_neg (by simp [hc])] at hT
    obtain ⟨H1b, h32b, s1b⟩ := j32 s1.at_ [123]
    have s1c := s1.trans s1b
    have i1b := s1c.fn
    have hle' := hasS_le (hasS s [91]) [123]
    have gb1b := s1b.other gb1 ne1
    have l2b := fun (k' : AV → RP) => ldR gb1b 0 (.ptr r 0) rfl k'
    cases hc2 : hasB (hasS s [91]) [123] with
    | true =>
      rw [hc2] at h32b
      rw [if_pos hc2] at hT
      have hlt := hasS_lt hc2
      obtain ⟨vc, H2, i2, n2, s2, g2, hne2, hle2⟩ := cellV s1c.at_
      have sp := (s1c.trans s2).put g2 hne2 (Nat.le_trans s1c.kp.nx hle2) (.cells (valRow 8 []))
      have st2 := fun (kk : AV → AH → RP) => qSt_whole (n := 4) (l := valRow 8 []) g2 rfl rfl rfl kk
      generalize H2.set vc (some (.cells (valRow 8 []))) = H3 at sp st2
      obtain ⟨s3, g3⟩ := sp
      have i3 := s3.fn
      have nx3 := s1c.kp.nx
      have nx4 := s3.kp.nx
      obtain ⟨mp, sc, Ha, Hc, Hd, m1, m2, m3, id, sd, gvd, gsc, gmp, le1, le2⟩ := mapV s3.at_ g3
      have li : LI true Hb Hd r rb db vc sc mp deep 8 ⟨hasS (hasS s [91]) [123], d', t, [], []⟩ (dd []) (.sl [] .nil) (.sl [] .nil) [] :=
        { sr := s3.trans sd, hr := by omega, fb := ib, hrb := gb, hdb := gd, hvc := gvd, hev := rfl, hlv := .inl ⟨rfl, rfl⟩, hnv := .nil, nrb := ne1, ndb := ne2, nvc := by omega
          nl := fun i ⟨n, e⟩ => by cases e
          nt := fun i ⟨n, e⟩ => by cases e
          hsc := fun _ => ⟨gsc, by omega⟩
          hmp := fun _ => ⟨gmp, by omega⟩ }
      have l3 := fun (k' : AV → RP) => ldR li.grb 0 (.ptr r 0) rfl k'
      rcases hls true deep Hb Hd r rb db vc sc mp 8 _ _ _ _ li (by simp only []; omega) ⟨by simp only []; omega, by simp only [List.length_nil]; omega, by simp only [List.length_nil]; omega⟩ with ⟨j', H4, nv', lv', rows', hl, h33, g4⟩ | ⟨H4, hl, h33, kp⟩
      · rw [hl] at hT
        simp only [Option.map_some] at hT
        have h33' : EJ 33 [.ptr r 0, .str [125], .fn (.func 35) [] [.ptr rb 0, .ptr sc 0, .ptr vc 0, .ptr db 0]] Hd = some (.val (.tup []) H4) := h33
        obtain ⟨Hs, w1, w2, w3, w4⟩ := fin22 g4 s0 gv ne3 hx hr
        have l4 := fun (kk : AV → RP) => qLdA_whole (n := 4) g4.hvc rfl kk
        simp -implicitDefEqProofs only [r22_2, r22_6, r22_7, r22_8, r22_9, r22_10, opn_z, opn_s, sel_z, sel_s, qCd_eq, qIf_true, qIf_false, qFn_eq, qBl_eq, qO_some, qRes_val, qHp_some, qPick_true, qPick_false, qG_tt, qG_ff, qG_tf, qG_ft, cellsK_some, qLd_vptr, qLdA_vptr, qFa_ptr, qFa_vptr, qNc_ptr, qNc_vptr, qNc_fn, qNot_bool, qExt_tup, qCallV_fn, qLss_int, qLeq_int, qGtr_int, qGeq_int, qEql_int, qNeq_int, qAdd_int, qSub_int, qMul_int, qConvI_int, qLenL_sl, qLenL_hsl, qLenS_str, foldO, min2_int, max2_int, qSame_refl, Nat.zero_add, List.getElem?_cons_zero, List.getElem?_cons_succ, List.nil_append, List.cons_append, List.append_nil, one_bool, one_int, one_str, one_nilp, one_ptr, one_sl, one_hsl, one_map, one_fn, List.length_cons, List.length_nil, List.set_cons_zero, List.set_cons_succ, Nat.reduceLT, Nat.reduceAdd, qG_un, qResN_val, qCallVN_fn, l1, l2, h32, h32b, bld1, n2, st2, m1, m2, m3, l3, h33', l4, w1, w2, qPtr_ptr]
        exact ⟨_, rfl, _, _, hT.symm, rfl, w3, w4⟩
      · rw [hl] at hT
        simp only [Option.map_none] at hT
        have h33' : EJ 33 [.ptr r 0, .str [125], .fn (.func 35) [] [.ptr rb 0, .ptr sc 0, .ptr vc 0, .ptr db 0]] Hd = some (.panic Wr H4) := h33
        simp -implicitDefEqProofs only [r22_2, r22_6, r22_7, r22_8, r22_9, opn_z, opn_s, sel_z, sel_s, qCd_eq, qIf_true, qIf_false, qFn_eq, qBl_eq, qO_some, qRes_val, qHp_some, qPick_true, qPick_false, qG_tt, qG_ff, qG_tf, qG_ft, cellsK_some, qLd_vptr, qLdA_vptr, qFa_ptr, qFa_vptr, qNc_ptr, qNc_vptr, qNc_fn, qNot_bool, qExt_tup, qCallV_fn, qLss_int, qLeq_int, qGtr_int, qGeq_int, qEql_int, qNeq_int, qAdd_int, qSub_int, qMul_int, qConvI_int, qLenL_sl, qLenL_hsl, qLenS_str, foldO, min2_int, max2_int, qSame_refl, Nat.zero_add, List.getElem?_cons_zero, List.getElem?_cons_succ, List.nil_append, List.cons_append, List.append_nil, one_bool, one_int, one_str, one_nilp, one_ptr, one_sl, one_hsl, one_map, one_fn, List.length_cons, List.length_nil, List.set_cons_zero, List.set_cons_succ, Nat.reduceLT, Nat.reduceAdd, qG_un, qResN_val, qCallVN_fn, l1, l2, h32, h32b, bld1, n2, st2, m1, m2, m3, l3, h33', qRes_pan, rp_pan]
        exact ⟨hT.symm, trivial, s0.kp.trans kp (fun _ _ h => h)⟩
    | false =>
      rw [hc2] at h32b
      rw [if_neg (by simp [hc2])] at hT
      have l3 := fun (k' : AV → RP) => ldR s1c.at_ 0 (.str (hasS (hasS s [91]) [123])) rfl k'
      have h38 := fun H => j38 (hasS (hasS s [91]) [123]) [34] H
      have hlen : (hasS (hasS s [91]) [123]).length < 100000000 := by omega
      generalize hasS (hasS s [91]) [123] = z at hT l3 h38 s1b s1c hlen
      have fin : ∀ {H2 : AH} {z2 : Str}, Sr Hb H2 r z2 d' t → ∀ (k : Int) (x : Str), ∃ Hs, (∀ kk : AV → AH → RP, qSt 4 (.ptr vi 0) (.agg (valRow k x)) H2 kk = kk Aes.undef Hs) ∧ (∀ kk : AV → RP, qLdA 4 (.ptr vi 0) Hs kk = kk (.agg (valRow k x))) ∧ Sr H Hs r z2 d' t := by
        intro H2 z2 s2 k x
        have i2 := s2.fn
        have gvi := s2.other gv ne3
        have sp := (s0.trans s2).put gvi (Ne.symm ne3) hx (.cells (valRow k x))
        exact ⟨_, fun kk => qSt_whole (n := 4) (l := valRow k x) gvi rfl rfl rfl kk, fun kk => qLdA_whole sp.2 rfl kk, sp.1⟩
      cases hq : hp z [34] with
      | true =>
        rw [hq] at h38
        rw [if_pos hq] at hT
        obtain ⟨H2, h39, s2⟩ := j39 s1c.at_ hlen
        cases htx : textF (skF z) with
        | none =>
          rw [htx] at h39 s2 hT
          simp only [Option.map_none] at h39 s2 hT
          simp -implicitDefEqProofs only [r22_2, r22_6, r22_11, r22_12, opn_z, opn_s, sel_z, sel_s, qCd_eq, qIf_true, qIf_false, qFn_eq, qBl_eq, qO_some, qRes_val, qHp_some, qPick_true, qPick_false, qG_tt, qG_ff, qG_tf, qG_ft, cellsK_some, qLd_vptr, qLdA_vptr, qFa_ptr, qFa_vptr, qNc_ptr, qNc_vptr, qNc_fn, qNot_bool, qExt_tup, qCallV_fn, qLss_int, qLeq_int, qGtr_int, qGeq_int, qEql_int, qNeq_int, qAdd_int, qSub_int, qMul_int, qConvI_int, qLenL_sl, qLenL_hsl, qLenS_str, foldO, min2_int, max2_int, qSame_refl, Nat.zero_add, List.getElem?_cons_zero, List.getElem?_cons_succ, List.nil_append, List.cons_append, List.append_nil, one_bool, one_int, one_str, one_nilp, one_ptr, one_sl, one_hsl, one_map, one_fn, List.length_cons, List.length_nil, List.set_cons_zero, List.set_cons_succ, Nat.reduceLT, Nat.reduceAdd, qG_un, qResN_val, qCallVN_fn, l1, l2, l2b, l3, h32, h32b, h38, h39, qRes_pan, rp_pan]
          exact ⟨hT.symm, trivial, (s0.trans s1c).kp.trans s2 (fun _ _ h => h)⟩
        | some p =>
          rw [htx] at h39 s2 hT
          simp only [Option.map_some] at h39 s2 hT
          obtain ⟨Hs, w1, w2, w3⟩ := fin (s1c.trans s2) 5 p.1
          simp -implicitDefEqProofs only [r22_2, r22_6, r22_11, r22_12, opn_z, opn_s, sel_z, sel_s, qCd_eq, qIf_true, qIf_false, qFn_eq, qBl_eq, qO_some, qRes_val, qHp_some, qPick_true, qPick_false, qG_tt, qG_ff, qG_tf, qG_ft, cellsK_some, qLd_vptr, qLdA_vptr, qFa_ptr, qFa_vptr, qNc_ptr, qNc_vptr, qNc_fn, qNot_bool, qExt_tup, qCallV_fn, qLss_int, qLeq_int, qGtr_int, qGeq_int, qEql_int, qNeq_int, qAdd_int, qSub_int, qMul_int, qConvI_int, qLenL_sl, qLenL_hsl, qLenS_str, foldO, min2_int, max2_int, qSame_refl, Nat.zero_add, List.getElem?_cons_zero, List.getElem?_cons_succ, List.nil_append, List.cons_append, List.append_nil, one_bool, one_int, one_str, one_nilp, one_ptr, one_sl, one_hsl, one_map, one_fn, List.length_cons, List.length_nil, List.set_cons_zero, List.set_cons_succ, Nat.reduceLT, Nat.reduceAdd, qG_un, qResN_val, qCallVN_fn, l1, l2, l2b, l3, h32, h32b, h38, h39, bld2, w1, w2, qPtr_ptr]
          exact ⟨_, rfl, _, _, hT.symm, rfl, valRow_EV _ _, w3⟩
      | false =>
        rw [hq] at h38
        rw [if_neg (by simp [hq])] at hT
        obtain ⟨H2, h40, s2⟩ := j40 s1c.at_ hlen
        cases hwk : wordK (z.takeWhile wdB) with
        | none =>
          rw [hwk] at h40 s2 hT
          simp only [Option.map_none] at h40 s2 hT
          simp -implicitDefEqProofs only [r22_2, r22_6, r22_11, r22_13, opn_z, opn_s, sel_z, sel_s, qCd_eq, qIf_true, qIf_false, qFn_eq, qBl_eq, qO_some, qRes_val, qHp_some, qPick_true, qPick_false, qG_tt, qG_ff, qG_tf, qG_ft, cellsK_some, qLd_vptr, qLdA_vptr, qFa_ptr, qFa_vptr, qNc_ptr, qNc_vptr, qNc_fn, qNot_bool, qExt_tup, qCallV_fn, qLss_int, qLeq_int, qGtr_int, qGeq_int, qEql_int, qNeq_int, qAdd_int, qSub_int, qMul_int, qConvI_int, qLenL_sl, qLenL_hsl, qLenS_str, foldO, min2_int, max2_int, qSame_refl, Nat.zero_add, List.getElem?_cons_zero, List.getElem?_cons_succ, List.nil_append, List.cons_append, List.append_nil, one_bool, one_int, one_str, one_nilp, one_ptr, one_sl, one_hsl, one_map, one_fn, List.length_cons, List.length_nil, List.set_cons_zero, List.set_cons_succ, Nat.reduceLT, Nat.reduceAdd, qG_un, qResN_val, qCallVN_fn, l1, l2, l2b, l3, h32, h32b, h38, h40, qRes_pan, rp_pan]
          exact ⟨hT.symm, trivial, (s0.trans s1c).kp.trans s2 (fun _ _ h => h)⟩
        | some p =>
          rw [hwk] at h40 s2 hT
          simp only [Option.map_some] at h40 s2 hT
          obtain ⟨Hs, w1, w2, w3⟩ := fin (s1c.trans s2) p.1 p.2
          simp -implicitDefEqProofs only [r22_2, r22_6, r22_11, r22_13, opn_z, opn_s, sel_z, sel_s, qCd_eq, qIf_true, qIf_false, qFn_eq, qBl_eq, qO_some, qRes_val, qHp_some, qPick_true, qPick_false, qG_tt, qG_ff, qG_tf, qG_ft, cellsK_some, qLd_vptr, qLdA_vptr, qFa_ptr, qFa_vptr, qNc_ptr, qNc_vptr, qNc_fn, qNot_bool, qExt_tup, qCallV_fn, qLss_int, qLeq_int, qGtr_int, qGeq_int, qEql_int, qNeq_int, qAdd_int, qSub_int, qMul_int, qConvI_int, qLenL_sl, qLenL_hsl, qLenS_str, foldO, min2_int, max2_int, qSame_refl, Nat.zero_add, List.getElem?_cons_zero, List.getElem?_cons_succ, List.nil_append, List.cons_append, List.append_nil, one_bool, one_int, one_str, one_nilp, one_ptr, one_sl, one_hsl, one_map, one_fn, List.length_cons, List.length_nil, List.set_cons_zero, List.set_cons_succ, Nat.reduceLT, Nat.reduceAdd, qG_un, qResN_val, qCallVN_fn, l1, l2, l2b, l3, h32, h32b, h38, h40, w1, w2, qPtr_ptr]
          exact ⟨_, rfl, _, _, hT.symm, rfl, valRow_EV _ _, w3⟩

theorem vok_all : ∀ n, VOk n := by
  intro n
  induction n using Nat.strongRecOn with
  | _ n ih => exact vok ih
end T
