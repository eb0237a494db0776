import Derived.Test.YtnmljkjdflfdoaaDoorRuX
set_option linter.all false
set_option linter.unusedVariables false
set_option linter.unusedSimpArgs false
set_option maxRecDepth 10000
namespace T
open Go Go.Aes Go.Proofs

/-! ### the reader: library functions by contract, what it answers held in the hand -/
def DJ (g : Nat) : Bool := [38, 41, 48, 50, 53, 54].contains g
def PJ (g : Nat) : Bool := [52].contains g
def ZJ (g : Nat) : Bool := g.beq 22
noncomputable abbrev EJ : CallF := evZ X DJ EP3 PJ ZJ
theorem j38 (s p : Str) (H : AH) : EJ 38 [.str s, .str p] H = some (.val (.bool (hp s p)) H) := evZ_O rfl (up (ep82 s p H))
theorem j48 (s p : Str) (H : AH) : EJ 48 [.str s, .str p] H = some (.val (.tup [.str (cutP s p), .bool (hp s p)]) H) := evZ_O rfl (up (ep42 s p H))
theorem j53 (s : Str) (c : UInt8) (H : AH) : EJ 53 [.str s, .int .u8 c.toNat] H = some (.val (.int .i64 (Lib.indexByte s c)) H) := evZ_O rfl (up (ep43 s c H))
theorem j54 (s : Str) (hl : s.length < 1000000000000) (H : AH) : EJ 54 [.str s] H = some (.val (.tup [.bool (num s).1, .bool (num s).2]) H) := evZ_O rfl (up (ep15 s hl H))
theorem j50 (s : Str) (hl : s.length < 1000000000) (H : AH) : EJ 50 [.str s] H = some (.val (uqR (uqF s)) H) := evZ_O rfl (ep31 s hl H)
def jb : Str := [32, 9, 10, 13]
def skF (s : Str) : Str := s.dropWhile jb.contains
theorem j41 (s : Str) (H : AH) : EJ 41 [.str s, .str [32, 9, 10, 13]] H = some (.val (.str (skF s)) H) := evZ_O rfl (up (ep70 s 32 9 [10, 13] (by decide) (by decide) H))

/-- what is thrown -/
def Wr : AV := .iface 57 (.agg [])
/-- a reader's cells -/
def rs (s : Str) (d t : Bool) : AO := .cells [.str s, .bool d, .bool t]
/-- a step of the reader: its cells, all else as it was -/
structure Sr (H H' : AH) (r : Nat) (s : Str) (d t : Bool) : Prop where
  kp : Kp H H' (· = r)
  at_ : H'.get r = some (rs s d t)
theorem Sr.trans {H H1 H2 : AH} {r : Nat} {s s' : Str} {d d' t t' : Bool} (h : Sr H H1 r s d t) (k : Sr H1 H2 r s' d' t') : Sr H H2 r s' d' t' := ⟨h.kp.trans k.kp (fun _ _ h => h), k.at_⟩
theorem Sr.set {H : AH} [IsFn H] {r : Nat} {s s' : Str} {d t d' t' : Bool} (hg : H.get r = some (rs s d t)) : Sr H (H.set r (some (rs s' d' t'))) r s' d' t' :=
  ⟨Kp.set _ (lt_i hg), by rw [get_set_i (lt_i hg), if_pos rfl]⟩
theorem Sr.fn {H H' : AH} {r : Nat} {s : Str} {d t : Bool} (h : Sr H H' r s d t) : IsFn H' := h.kp.fn

theorem rp_pan (v : AV) (H : AH) (P : AV → AH → Prop) : (Mon.pan v H : RP) P = P v H := rfl
theorem rp_pan' (v : AV) (H : AH) (P : AV → AH → Prop) : (Mon.pan v H : RP) P ↔ P v H := Iff.rfl

section
variable {g np : Nat} {fn : Func} {ss : List Nat} {c : CallF → List AV → AH → (AV → AH → RP) → RP} {al : List AV} {H : AH}
theorem jval (he : hFn (R := RP) X g fn np ss = c) (hfn : X.fn g = some fn) (hd : DJ g = false) (hs : (PJ g && AV.frees (AV.kills al)) = false) (hz : ZJ g = false) {Q : AV → AH → Prop} (h : c EJ al H (fun v H' _ => Q v H') (fun _ _ => False)) : ∃ v H', EJ g al H = some (.val v H') ∧ Q v H' := by
  rcases pz_form he hfn hd hs h hz with h | ⟨_, _, _, h⟩
  · exact h
  · exact h.elim
theorem jpan (he : hFn (R := RP) X g fn np ss = c) (hfn : X.fn g = some fn) (hd : DJ g = false) (hs : (PJ g && AV.frees (AV.kills al)) = false) {P : AH → Prop} (h : c EJ al H (fun _ _ _ => False) (fun v H' => v = Wr ∧ P H')) : ∃ H', EJ g al H = some (.panic Wr H') ∧ P H' := by
  subst he
  rcases hFn_satP (monRP_ok (fun v H' => v = Wr ∧ P H')) hfn h with ⟨lf, v, H', h1, h2⟩ | ⟨lf, v, H', h1, rfl, h2⟩
  · exact h2.elim
  · refine ⟨H', ?_, h2⟩
    have := evZ_body' hd hs h1
    refine this.trans ?_
    cases ZJ g <;> rfl
end

theorem j24 (v : AV) (H : AH) : EJ 24 [v] H = some (.panic Wr H) := by
  obtain ⟨H', h1, rfl⟩ := jpan (P := fun H' => H' = H) (al := [v]) (H := H) e24 xf24 rfl rfl (by
    have b : ∀ k : AV → RP, qBld z57 [] k = k (.agg []) := fun k => rfl
    simp -implicitDefEqProofs only [c24, r24_0, opn_z, opn_s, sel_z, sel_s, qCd_eq, qIf_true, qIf_false, qFn_eq, qBl_eq, qO_some, qRes_val, qHp_some, qPick_true, qPick_false, qG_tt, qG_ff, qG_tf, qG_ft, cellsK_some, qLd_ptr, qLd_vptr, qLdA_ptr, qLdA_vptr, qFa_ptr, qFa_vptr, qNc_ptr, qNc_vptr, qNc_fn, qNot_bool, qExt_tup, qCallV_fn, qLss_int, qLeq_int, qGtr_int, qGeq_int, qEql_int, qNeq_int, qAdd_int, qSub_int, qMul_int, qConvI_int, qLenL_sl, qLenL_hsl, qLenS_str, foldO, min2_int, max2_int, qSame_refl, Nat.zero_add, List.getElem?_cons_zero, List.getElem?_cons_succ, List.nil_append, List.cons_append, List.append_nil, one_bool, one_int, one_str, one_nilp, one_ptr, one_sl, one_hsl, one_map, one_fn, List.length_cons, List.length_nil, List.set_cons_zero, List.set_cons_succ, Nat.reduceLT, Nat.reduceAdd, qG_un, qResN_val, qCallVN_fn, b, qPan_if, rp_pan]
    exact ⟨rfl, trivial⟩)
  exact h1
theorem j23 {H : AH} [IsFn H] {r : Nat} {s : Str} {d t : Bool} (hg : H.get r = some (rs s d t)) : EJ 23 [.ptr r 0] H = some (.val (.tup []) (H.set r (some (rs (skF s) d t)))) := by
  have l0 := fun (k : AV → Prop) => ld1 hg 0 (.str s) rfl k
  have s0 := fun (x : Str) (k : AV → AH → Prop) => qSt_1 (o := 0) (v := .str x) hg (by simp) rfl k
  refine az_form_eq (X := X) (D := DJ) (O := EP3) (S := PJ) (Z := ZJ) e23 xf23 rfl rfl ?_ rfl
  simp -implicitDefEqProofs only [c23, r23_0, opn_z, opn_s, sel_z, sel_s, qCd_eq, qIf_true, qIf_false, qFn_eq, qBl_eq, qO_some, qRes_val, qHp_some, qPick_true, qPick_false, qG_tt, qG_ff, qG_tf, qG_ft, cellsK_some, qLd_vptr, qLdA_vptr, qFa_ptr, qFa_vptr, qNc_ptr, qNc_vptr, qNc_fn, qNot_bool, qExt_tup, qCallV_fn, qLss_int, qLeq_int, qGtr_int, qGeq_int, qEql_int, qNeq_int, qAdd_int, qSub_int, qMul_int, qConvI_int, qLenL_sl, qLenL_hsl, qLenS_str, foldO, min2_int, max2_int, qSame_refl, Nat.zero_add, List.getElem?_cons_zero, List.getElem?_cons_succ, List.nil_append, List.cons_append, List.append_nil, one_bool, one_int, one_str, one_nilp, one_ptr, one_sl, one_hsl, one_map, one_fn, List.length_cons, List.length_nil, List.set_cons_zero, List.set_cons_succ, Nat.reduceLT, Nat.reduceAdd, qG_un, qResN_val, qCallVN_fn, l0, j41, s0]
  exact ⟨trivial, rfl⟩
/-- does a sign stand next? -/
def hasB (s p : Str) : Bool := hp (skF s) p
def hasS (s p : Str) : Str := cutP (skF s) p
theorem j32 {H : AH} [IsFn H] {r : Nat} {s : Str} {d t : Bool} (hg : H.get r = some (rs s d t)) (p : Str) : ∃ H', EJ 32 [.ptr r 0, .str p] H = some (.val (.bool (hasB s p)) H') ∧ Sr H H' r (hasS s p) d t := by
  have h23 := j23 hg
  have s1 := Sr.set (s' := skF s) (d' := d) (t' := t) hg
  generalize H.set r (some (rs (skF s) d t)) = H1 at h23 s1
  have i1 := s1.fn
  have l0 := fun (k : AV → Prop) => ld1 s1.at_ 0 (.str (skF s)) rfl k
  have s0 := fun (x : Str) (k : AV → AH → Prop) => qSt_1 (o := 0) (v := .str x) s1.at_ (by simp) rfl k
  refine ⟨H1.set r (some (rs (hasS s p) d t)), az_form_eq (X := X) (D := DJ) (O := EP3) (S := PJ) (Z := ZJ) e32 xf32 rfl rfl ?_ rfl, s1.trans (Sr.set s1.at_)⟩
  simp -implicitDefEqProofs only [c32, r32_0, r32_1, r32_2, r32_3, r32_4, opn_z, opn_s, sel_z, sel_s, qCd_eq, qIf_true, qIf_false, qFn_eq, qBl_eq, qO_some, qRes_val, qHp_some, qPick_true, qPick_false, qG_tt, qG_ff, qG_tf, qG_ft, cellsK_some, qLd_vptr, qLdA_vptr, qFa_ptr, qFa_vptr, qNc_ptr, qNc_vptr, qNc_fn, qNot_bool, qExt_tup, qCallV_fn, qLss_int, qLeq_int, qGtr_int, qGeq_int, qEql_int, qNeq_int, qAdd_int, qSub_int, qMul_int, qConvI_int, qLenL_sl, qLenL_hsl, qLenS_str, foldO, min2_int, max2_int, qSame_refl, Nat.zero_add, List.getElem?_cons_zero, List.getElem?_cons_succ, List.nil_append, List.cons_append, List.append_nil, one_bool, one_int, one_str, one_nilp, one_ptr, one_sl, one_hsl, one_map, one_fn, List.length_cons, List.length_nil, List.set_cons_zero, List.set_cons_succ, Nat.reduceLT, Nat.reduceAdd, qG_un, qResN_val, qCallVN_fn, h23, l0, j48, s0]
  exact ⟨rfl, rfl⟩
theorem j37 {H : AH} [IsFn H] {r : Nat} {s : Str} {d t : Bool} (hg : H.get r = some (rs s d t)) (p : Str) : ∃ H', EJ 37 [.ptr r 0, .str p] H = some (if hasB s p then .val (.tup []) H' else .panic Wr H') ∧ Sr H H' r (hasS s p) d t := by
  obtain ⟨H1, h32, s1⟩ := j32 hg p
  refine ⟨H1, ?_, s1⟩
  cases hb : hasB s p with
  | true =>
    rw [hb] at h32
    obtain ⟨v, H', h1, rfl, rfl⟩ := jval (Q := fun v H' => v = .tup [] ∧ H' = H1) (al := [.ptr r 0, .str p]) (H := H) e37 xf37 rfl rfl rfl (by
      simp -implicitDefEqProofs only [c37, r37_0, r37_1, opn_z, opn_s, sel_z, sel_s, qCd_eq, qIf_true, qIf_false, qFn_eq, qBl_eq, qO_some, qRes_val, qHp_some, qPick_true, qPick_false, qG_tt, qG_ff, qG_tf, qG_ft, cellsK_some, qLd_vptr, qLdA_vptr, qFa_ptr, qFa_vptr, qNc_ptr, qNc_vptr, qNc_fn, qNot_bool, qExt_tup, qCallV_fn, qLss_int, qLeq_int, qGtr_int, qGeq_int, qEql_int, qNeq_int, qAdd_int, qSub_int, qMul_int, qConvI_int, qLenL_sl, qLenL_hsl, qLenS_str, foldO, min2_int, max2_int, qSame_refl, Nat.zero_add, List.getElem?_cons_zero, List.getElem?_cons_succ, List.nil_append, List.cons_append, List.append_nil, one_bool, one_int, one_str, one_nilp, one_ptr, one_sl, one_hsl, one_map, one_fn, List.length_cons, List.length_nil, List.set_cons_zero, List.set_cons_succ, Nat.reduceLT, Nat.reduceAdd, qG_un, qResN_val, qCallVN_fn, h32, Bool.not_true]
      exact ⟨trivial, trivial⟩)
    exact h1
  | false =>
    rw [hb] at h32
    obtain ⟨H', h1, rfl⟩ := jpan (P := fun H' => H' = H1) (al := [.ptr r 0, .str p]) (H := H) e37 xf37 rfl rfl (by
      simp -implicitDefEqProofs only [c37, r37_0, r37_1, opn_z, opn_s, sel_z, sel_s, qCd_eq, qIf_true, qIf_false, qFn_eq, qBl_eq, qO_some, qRes_val, qHp_some, qPick_true, qPick_false, qG_tt, qG_ff, qG_tf, qG_ft, cellsK_some, qLd_vptr, qLdA_vptr, qFa_ptr, qFa_vptr, qNc_ptr, qNc_vptr, qNc_fn, qNot_bool, qExt_tup, qCallV_fn, qLss_int, qLeq_int, qGtr_int, qGeq_int, qEql_int, qNeq_int, qAdd_int, qSub_int, qMul_int, qConvI_int, qLenL_sl, qLenL_hsl, qLenS_str, foldO, min2_int, max2_int, qSame_refl, Nat.zero_add, List.getElem?_cons_zero, List.getElem?_cons_succ, List.nil_append, List.cons_append, List.append_nil, one_bool, one_int, one_str, one_nilp, one_ptr, one_sl, one_hsl, one_map, one_fn, List.length_cons, List.length_nil, List.set_cons_zero, List.set_cons_succ, Nat.reduceLT, Nat.reduceAdd, qG_un, qResN_val, qCallVN_fn, h32, Bool.not_false, j24, qRes_pan, rp_pan]
      exact ⟨trivial, trivial⟩)
    exact h1

theorem ldR {R : Type} [Mon R] {H : AH} {i : Nat} {cs : List AV} (hg : H.get i = some (.cells cs)) (o : Nat) (v : AV) (h : cs[o]? = some v) (k : AV → R) : qLd (.ptr i o) H k = k v := ld1 hg o v h k
theorem u8_34 (a : UInt8) : (((a.toNat : Nat) : Int) == (34 : Int)) = decide (a = 34) := u8_eq a 34
theorem u8_92 (a : UInt8) : (((a.toNat : Nat) : Int) == (92 : Int)) = decide (a = 92) := u8_eq a 92
theorem slcR_lo {R : Type} [Mon R] (s : Str) (a : Nat) (h : a ≤ s.length) (k : AV → R) : qSlc Tryd.t9.desc 0 (.str s) (some (.int .i64 (a : Int))) none none k = k (.str (s.drop a)) := by
  have hb : bnd (some (.int .i64 (a : Int))) 0 s.length = some a := by
    have : a.ble s.length = true := by simpa using h
    simp [bnd, asN, this]
  have : sliceD Tryd.t9.desc 0 (.str s) (some (.int .i64 (a : Int))) none none = some (.str (s.drop a)) := by
    show (match bnd none s.length s.length with
      | none => none
      | some h => match bnd (some (.int .i64 (a : Int))) 0 h with
        | none => none
        | some l => some (AV.str ((s.take h).drop l))) = _
    simp only [bnd] at hb ⊢
    rw [hb]
    simp
  unfold qSlc
  rw [this, qO_some]
theorem slcR_hi {R : Type} [Mon R] (s : Str) (a : Nat) (h : a ≤ s.length) (k : AV → R) : qSlc Tryd.t9.desc 0 (.str s) none (some (.int .i64 (a : Int))) none k = k (.str (s.take a)) := by
  have hb : bnd (some (.int .i64 (a : Int))) s.length s.length = some a := by
    have : a.ble s.length = true := by simpa using h
    simp [bnd, asN, this]
  have : sliceD Tryd.t9.desc 0 (.str s) none (some (.int .i64 (a : Int))) none = some (.str (s.take a)) := by
    show (match bnd (some (.int .i64 (a : Int))) s.length s.length with
      | none => none
      | some h => match bnd none 0 h with
        | none => none
        | some l => some (AV.str ((s.take h).drop l))) = _
    rw [hb]
    simp [bnd]
  unfold qSlc
  rw [this, qO_some]

/-! #### bytes that go together -/
def wdB (c : UInt8) : Bool := !([32, 9, 10, 13, 91, 93, 123, 125, 44, 58, 34] : Str).contains c
theorem ib_dec2 (s : Str) (c : UInt8) : decide (Lib.indexByte s c < 0) = !s.contains c := by
  have := ib_dec s c
  rw [← this]
  by_cases h : Lib.indexByte s c < 0
  · rw [decide_eq_true h, decide_eq_false (by omega)]; rfl
  · rw [decide_eq_false h, decide_eq_true (by omega)]; rfl
theorem j52 (c : UInt8) (H : AH) : EJ 52 [.int .u8 (c.toNat : Int)] H = some (.val (.bool (wdB c)) H) := by
  refine uz_form (X := X) (D := DJ) (O := EP3) (S := PJ) (Z := ZJ) (al := [.int .u8 (c.toNat : Int)]) e52 xf52 rfl rfl rfl rfl ?_ H
  simp only [AV.kills, AV.kill]
  have hi := j53 [32, 9, 10, 13, 91, 93, 123, 125, 44, 58, 34] c
  have hd := ib_dec2 [32, 9, 10, 13, 91, 93, 123, 125, 44, 58, 34] c
  simp -implicitDefEqProofs only [c52, r52_0, r52_1, opn_z, opn_s, sel_z, sel_s, qCd_eq, qIf_true, qIf_false, qFn_eq, qBl_eq, qO_some, qRes_val, qHp_some, qPick_true, qPick_false, qG_tt, qG_ff, qG_tf, qG_ft, cellsK_some, qLd_ptr, qLd_vptr, qLdA_ptr, qLdA_vptr, qFa_ptr, qFa_vptr, qNc_ptr, qNc_vptr, qNc_fn, qNot_bool, qExt_tup, qCallV_fn, qLss_int, qLeq_int, qGtr_int, qGeq_int, qEql_int, qNeq_int, qAdd_int, qSub_int, qMul_int, qConvI_int, qLenL_sl, qLenL_hsl, qLenS_str, foldO, min2_int, max2_int, qSame_refl, Nat.zero_add, List.getElem?_cons_zero, List.getElem?_cons_succ, List.nil_append, List.cons_append, List.append_nil, one_bool, one_int, one_str, one_nilp, one_ptr, one_sl, one_hsl, one_map, one_fn, List.length_cons, List.length_nil, List.set_cons_zero, List.set_cons_succ, Nat.reduceLT, Nat.reduceAdd, qG_un, qResN_val, qCallVN_fn, AV.kill, AV.kills, Tk.kill, hi, hd]
  rfl
def spn (p : UInt8 → Bool) (s : Str) : Nat := (s.takeWhile p).length
theorem spn_le (p : UInt8 → Bool) : ∀ s : Str, spn p s ≤ s.length
  | [] => by simp [spn]
  | c :: s => by
    have := spn_le p s
    unfold spn at this ⊢
    rw [List.takeWhile_cons]
    split <;> simp <;> omega
theorem spn_cons (p : UInt8 → Bool) (c : UInt8) (s : Str) : spn p (c :: s) = if p c then spn p s + 1 else 0 := by
  unfold spn
  rw [List.takeWhile_cons]
  split <;> simp
theorem take_spn (p : UInt8 → Bool) : ∀ s : Str, s.take (spn p s) = s.takeWhile p
  | [] => rfl
  | c :: s => by
    rw [spn_cons, List.takeWhile_cons]
    split
    · rw [List.take_succ_cons, take_spn p s]
    · rfl
theorem drop_spn (p : UInt8 → Bool) : ∀ s : Str, s.drop (spn p s) = s.dropWhile p
  | [] => rfl
  | c :: s => by
    rw [spn_cons, List.dropWhile_cons]
    split
    · rw [List.drop_succ_cons, drop_spn p s]
    · rfl
theorem j51 {H : AH} [IsFn H] {r : Nat} {s : Str} {d t : Bool} (hg : H.get r = some (rs s d t)) (hl : s.length < 1000000000000) :
    ∃ H', EJ 51 [.ptr r 0, .fn (.func 52) [] []] H = some (.val (.str (s.takeWhile wdB)) H') ∧ Sr H H' r (s.dropWhile wdB) d t := by
  have l0 := fun (k : AV → Prop) => ld1 hg 0 (.str s) rfl k
  have s0 := fun (x : Str) (k : AV → AH → Prop) => qSt_1 (o := 0) (v := .str x) hg (by simp) rfl k
  refine ⟨H.set r (some (rs (s.dropWhile wdB) d t)), az_form_eq (X := X) (D := DJ) (O := EP3) (S := PJ) (Z := ZJ) e51 xf51 rfl rfl ?_ rfl, Sr.set hg⟩
  simp -implicitDefEqProofs only [c51, r51_0, r51_1, opn_z, opn_s, sel_z, sel_s, qCd_eq, qIf_true, qIf_false, qFn_eq, qBl_eq, qO_some, qRes_val, qHp_some, qPick_true, qPick_false, qG_tt, qG_ff, qG_tf, qG_ft, cellsK_some, qLd_ptr, qLd_vptr, qLdA_ptr, qLdA_vptr, qFa_ptr, qFa_vptr, qNc_ptr, qNc_vptr, qNc_fn, qNot_bool, qExt_tup, qCallV_fn, qLss_int, qLeq_int, qGtr_int, qGeq_int, qEql_int, qNeq_int, qAdd_int, qSub_int, qMul_int, qConvI_int, qLenL_sl, qLenL_hsl, qLenS_str, foldO, min2_int, max2_int, qSame_refl, Nat.zero_add, List.getElem?_cons_zero, List.getElem?_cons_succ, List.nil_append, List.cons_append, List.append_nil, one_bool, one_int, one_str, one_nilp, one_ptr, one_sl, one_hsl, one_map, one_fn, List.length_cons, List.length_nil, List.set_cons_zero, List.set_cons_succ, Nat.reduceLT, Nat.reduceAdd, qG_un, qResN_val, qCallVN_fn]
  refine loop_inv (fun m fr H' => ∃ (i : Nat) (x4 x6 x23 : AV), m + i = s.length ∧ fr = [.ptr r 0, .fn (.func 52) [] [], x4, .int .i64 (i : Int), x6, x23] ∧ H' = H ∧ i + spn wdB (s.drop i) = spn wdB s) ?_ (m := s.length) ⟨0, _, _, _, rfl, rfl, rfl, by simp⟩
  rintro m fr H' kk ⟨i, x4, x6, x23, hm, rfl, rfl, hi⟩ hkk
  have fin : spn wdB (s.drop i) = 0 → ∀ (x4 x6 x23 : AV), (r51_4 (r51_5 (r51_6 (fun fr H2 => sel 2 fr = .str (s.takeWhile wdB) ∧ H2 = H'.set r (some (rs (s.dropWhile wdB) d t)))))) [.ptr r 0, .fn (.func 52) [] [], x4, .int .i64 (i : Int), x6, x23] H' := by
    intro h0 x4 x6 x23
    have hi' : spn wdB s = i := by omega
    have hle : i ≤ s.length := by omega
    have e1 := fun (k : AV → Prop) => slcS_hi s i hle k
    have e2 := fun (k : AV → Prop) => slcS_lo s i hle k
    simp -implicitDefEqProofs only [r51_4, r51_5, r51_6, opn_z, opn_s, sel_z, sel_s, qCd_eq, qIf_true, qIf_false, qFn_eq, qBl_eq, qO_some, qRes_val, qHp_some, qPick_true, qPick_false, qG_tt, qG_ff, qG_tf, qG_ft, cellsK_some, qLd_vptr, qLdA_vptr, qFa_ptr, qFa_vptr, qNc_ptr, qNc_vptr, qNc_fn, qNot_bool, qExt_tup, qCallV_fn, qLss_int, qLeq_int, qGtr_int, qGeq_int, qEql_int, qNeq_int, qAdd_int, qSub_int, qMul_int, qConvI_int, qLenL_sl, qLenL_hsl, qLenS_str, foldO, min2_int, max2_int, qSame_refl, Nat.zero_add, List.getElem?_cons_zero, List.getElem?_cons_succ, List.nil_append, List.cons_append, List.append_nil, one_bool, one_int, one_str, one_nilp, one_ptr, one_sl, one_hsl, one_map, one_fn, List.length_cons, List.length_nil, List.set_cons_zero, List.set_cons_succ, Nat.reduceLT, Nat.reduceAdd, qG_un, qResN_val, qCallVN_fn, l0, e1, e2, s0]
    rw [← hi', take_spn, drop_spn]
    exact ⟨rfl, rfl⟩
  by_cases h : i < s.length
  · have c1 : (i : Int) < (s.length : Int) := by omega
    have hc : s[i]? = some s[i] := List.getElem?_eq_getElem h
    have hx := fun (k : AV → Prop) => qIx_str hc .i64 k
    have hd : s.drop i = s[i] :: s.drop (i + 1) := List.drop_eq_getElem_cons h
    have hp' := fun H => j52 s[i] H
    cases hpc : wdB s[i] with
    | true =>
      rw [hd, spn_cons, hpc, if_pos rfl] at hi
      simp only [hpc] at hp'
      have hw : IntKind.i64.wrap ((i : Int) + 1) = ((i + 1 : Nat) : Int) := wrap_up i (by omega)
      simp -implicitDefEqProofs only [l51_4, r51_2, r51_3, opn_z, opn_s, sel_z, sel_s, qCd_eq, qIf_true, qIf_false, qFn_eq, qBl_eq, qO_some, qRes_val, qHp_some, qPick_true, qPick_false, qG_tt, qG_ff, qG_tf, qG_ft, cellsK_some, qLd_vptr, qLdA_vptr, qFa_ptr, qFa_vptr, qNc_ptr, qNc_vptr, qNc_fn, qNot_bool, qExt_tup, qCallV_fn, qLss_int, qLeq_int, qGtr_int, qGeq_int, qEql_int, qNeq_int, qAdd_int, qSub_int, qMul_int, qConvI_int, qLenL_sl, qLenL_hsl, qLenS_str, foldO, min2_int, max2_int, qSame_refl, Nat.zero_add, List.getElem?_cons_zero, List.getElem?_cons_succ, List.nil_append, List.cons_append, List.append_nil, one_bool, one_int, one_str, one_nilp, one_ptr, one_sl, one_hsl, one_map, one_fn, List.length_cons, List.length_nil, List.set_cons_zero, List.set_cons_succ, Nat.reduceLT, Nat.reduceAdd, qG_un, qResN_val, qCallVN_fn, l0, c1, decide_true, hx, hp', hw]
      exact hkk (m - 1) _ _ (by omega) ⟨i + 1, _, _, _, by omega, rfl, rfl, by omega⟩
    | false =>
      simp only [hpc] at hp'
      have h0 : spn wdB (s.drop i) = 0 := by rw [hd, spn_cons, hpc]; rfl
      simp -implicitDefEqProofs only [l51_4, r51_2, opn_z, opn_s, sel_z, sel_s, qCd_eq, qIf_true, qIf_false, qFn_eq, qBl_eq, qO_some, qRes_val, qHp_some, qPick_true, qPick_false, qG_tt, qG_ff, qG_tf, qG_ft, cellsK_some, qLd_vptr, qLdA_vptr, qFa_ptr, qFa_vptr, qNc_ptr, qNc_vptr, qNc_fn, qNot_bool, qExt_tup, qCallV_fn, qLss_int, qLeq_int, qGtr_int, qGeq_int, qEql_int, qNeq_int, qAdd_int, qSub_int, qMul_int, qConvI_int, qLenL_sl, qLenL_hsl, qLenS_str, foldO, min2_int, max2_int, qSame_refl, Nat.zero_add, List.getElem?_cons_zero, List.getElem?_cons_succ, List.nil_append, List.cons_append, List.append_nil, one_bool, one_int, one_str, one_nilp, one_ptr, one_sl, one_hsl, one_map, one_fn, List.length_cons, List.length_nil, List.set_cons_zero, List.set_cons_succ, Nat.reduceLT, Nat.reduceAdd, qG_un, qResN_val, qCallVN_fn, l0, c1, decide_true, hx, hp']
      exact fin h0 _ _ _
  · have c1 : ¬ (i : Int) < (s.length : Int) := by omega
    have h0 : spn wdB (s.drop i) = 0 := by rw [List.drop_eq_nil_of_le (by omega)]; rfl
    simp -implicitDefEqProofs only [l51_4, r51_2, opn_z, opn_s, sel_z, sel_s, qCd_eq, qIf_true, qIf_false, qFn_eq, qBl_eq, qO_some, qRes_val, qHp_some, qPick_true, qPick_false, qG_tt, qG_ff, qG_tf, qG_ft, cellsK_some, qLd_vptr, qLdA_vptr, qFa_ptr, qFa_vptr, qNc_ptr, qNc_vptr, qNc_fn, qNot_bool, qExt_tup, qCallV_fn, qLss_int, qLeq_int, qGtr_int, qGeq_int, qEql_int, qNeq_int, qAdd_int, qSub_int, qMul_int, qConvI_int, qLenL_sl, qLenL_hsl, qLenS_str, foldO, min2_int, max2_int, qSame_refl, Nat.zero_add, List.getElem?_cons_zero, List.getElem?_cons_succ, List.nil_append, List.cons_append, List.append_nil, one_bool, one_int, one_str, one_nilp, one_ptr, one_sl, one_hsl, one_map, one_fn, List.length_cons, List.length_nil, List.set_cons_zero, List.set_cons_succ, Nat.reduceLT, Nat.reduceAdd, qG_un, qResN_val, qCallVN_fn, l0, c1, decide_false]
    exact fin h0 _ _ _
end T
set_option linter.unusedVariables false
set_option linter.unusedSimpArgs false
set_option maxRecDepth 10000
namespace T
open Go Go.Aes Go.Proofs

theorem loop_invP {F : KT RP → KT RP} {P : AV → AH → Prop} (I : Nat → List AV → AH → Prop)
    (step : ∀ m fr H (k : KT RP), I m fr H → (∀ m' fr' H', m' < m → I m' fr' H' → k fr' H' P) → F k fr H P) {m : Nat} {fr : List AV} {H : AH} (h : I m fr H) : qLoop F fr H P := by
  refine ⟨m + 1, ?_⟩
  have key : ∀ n m fr H, m < n → I m fr H → fixN (fun _ => False : RP) F n fr H P := by
    intro n
    induction n with
    | zero => intro m fr H hm; omega
    | succ n ih =>
      intro m fr H hm hi
      exact step m fr H _ hi (fun m' fr' H' h1 h2 => ih m' fr' H' (by omega) h2)
  exact key (m + 1) m fr H (by omega) h

/-! ### a text -/
def tqN : Nat → Str → Nat → Nat
  | 0, _, n => n
  | f + 1, s, n => if n < s.length ∧ s[n]? ≠ some 34 then tqN f s (if s[n]? = some 92 then n + 2 else n + 1) else n
theorem tqN_le : ∀ (f g : Nat) (s : Str) (n : Nat), s.length + 1 ≤ f + n → s.length + 1 ≤ g + n → tqN f s n = tqN g s n
  | 0, 0, s, n, _, _ => rfl
  | 0, g + 1, s, n, h, _ => by
    unfold tqN
    rw [if_neg (by omega)]
  | f + 1, 0, s, n, _, h => by
    unfold tqN
    rw [if_neg (by omega)]
  | f + 1, g + 1, s, n, h1, h2 => by
    unfold tqN
    split
    · refine tqN_le f g s _ ?_ ?_ <;> split <;> omega
    · rfl
theorem tqN_step (s : Str) (n : Nat) (h : n < s.length ∧ s[n]? ≠ some 34) : tqN (s.length + 1) s n = tqN (s.length + 1) s (if s[n]? = some 92 then n + 2 else n + 1) := by
  conv => lhs; unfold tqN
  rw [if_pos h]
  refine tqN_le _ _ s _ ?_ ?_ <;> split <;> omega
theorem tqN_stop (s : Str) (n : Nat) (h : ¬ (n < s.length ∧ s[n]? ≠ some 34)) : tqN (s.length + 1) s n = n := by
  unfold tqN
  rw [if_neg h]
def qEnd (s : Str) : Nat := tqN (s.length + 1) s 1
def textF (s : Str) : Option (Str × Str) := if s.length ≤ qEnd s then none else (uqF (s.take (qEnd s + 1))).map fun t => (t, s.drop (qEnd s + 1))

theorem skF_le (s : Str) : (skF s).length ≤ s.length := (List.dropWhile_sublist _).length_le
theorem j39 {H : AH} [IsFn H] {r : Nat} {s : Str} {d t : Bool} (hg : H.get r = some (rs s d t)) (hl : s.length < 100000000) :
    ∃ H', EJ 39 [.ptr r 0] H = some (match textF (skF s) with
      | some p => .val (.str p.1) H'
      | none => .panic Wr H') ∧ (match textF (skF s) with
      | some p => Sr H H' r p.2 d t
      | none => Kp H H' (· = r)) := by
  have h23 := j23 hg
  have s1 := Sr.set (s' := skF s) (d' := d) (t' := t) hg
  generalize H.set r (some (rs (skF s) d t)) = H1 at h23 s1
  have hl1 : (skF s).length < 100000000 := Nat.lt_of_le_of_lt (skF_le s) hl
  generalize skF s = z at h23 s1 hl1
  have i1 := s1.fn
  have l0 := fun (k : AV → RP) (P : AV → AH → Prop) => congrFun (ldR s1.at_ 0 (.str z) rfl k) P
  have l1 := fun (k : AV → RP) => ldR s1.at_ 0 (.str z) rfl k
  -- the loop
  have loop : ∀ {Q : AV → AH → RP} {P : AV → AH → Prop}, (∀ (x4 x5 x23 x30 x41 x56 : AV), (r39_7 (qCd (sel 7) (fun k2 => (r39_8 EJ k2)) (fun k2 => k2) (r39_9 EJ (r39_10 (qCd (sel 8) (fun k1 => (r39_11 EJ k1)) (fun k1 => k1) (r39_12 (r39_13 (fun fr H => Q (sel 1 fr) H)))))))) [.ptr r 0, .str [], .int .i64 ((qEnd z : Nat) : Int), x4, x5, x23, x30, x41, x56] H1 P) → c39 (R := RP) EJ [.ptr r 0] H Q P := by
    intro Q P hfin
    simp -implicitDefEqProofs only [c39, r39_0, r39_1, r39_2, opn_z, opn_s, sel_z, sel_s, qCd_eq, qIf_true, qIf_false, qFn_eq, qBl_eq, qO_some, qRes_val, qHp_some, qPick_true, qPick_false, qG_tt, qG_ff, qG_tf, qG_ft, cellsK_some, qLd_vptr, qLdA_vptr, qFa_ptr, qFa_vptr, qNc_ptr, qNc_vptr, qNc_fn, qNot_bool, qExt_tup, qCallV_fn, qLss_int, qLeq_int, qGtr_int, qGeq_int, qEql_int, qNeq_int, qAdd_int, qSub_int, qMul_int, qConvI_int, qLenL_sl, qLenL_hsl, qLenS_str, foldO, min2_int, max2_int, qSame_refl, Nat.zero_add, List.getElem?_cons_zero, List.getElem?_cons_succ, List.nil_append, List.cons_append, List.append_nil, one_bool, one_int, one_str, one_nilp, one_ptr, one_sl, one_hsl, one_map, one_fn, List.length_cons, List.length_nil, List.set_cons_zero, List.set_cons_succ, Nat.reduceLT, Nat.reduceAdd, qG_un, qResN_val, qCallVN_fn, h23]
    refine loop_invP (fun m fr H' => ∃ (i : Nat) (x4 x5 x23 x30 x41 x56 : AV), m = z.length + 2 - i ∧ i < z.length + 2 ∧ fr = [.ptr r 0, .str [], .int .i64 (i : Int), x4, x5, x23, x30, x41, x56] ∧ H' = H1 ∧ tqN (z.length + 1) z i = qEnd z) ?_ (m := z.length + 1) ⟨1, _, _, _, _, _, _, by omega, by omega, rfl, rfl, rfl⟩
    rintro m fr H' kk ⟨i, x4, x5, x23, x30, x41, x56, hm, hi2, rfl, hHe, hi⟩ hkk
    rw [hHe]
    by_cases h : i < z.length
    · have c1 : (i : Int) < (z.length : Int) := by omega
      have hc : z[i]? = some z[i] := List.getElem?_eq_getElem h
      have hx := fun (k : AV → RP) => qIx_str hc .i64 k
      have h34 : ((((z[i].toNat : Nat) : Int) == (34 : Int)) : Bool) = decide (z[i] = 34) := u8_34 z[i]
      have h92 : ((((z[i].toNat : Nat) : Int) == (92 : Int)) : Bool) = decide (z[i] = 92) := u8_92 z[i]
      by_cases hq : z[i] = 34
      · have hst : tqN (z.length + 1) z i = i := tqN_stop z i (by rw [hc, hq]; simp)
        rw [hst] at hi
        have hb : (decide (z[i] = 34)) = true := by rw [hq]; rfl
        simp -implicitDefEqProofs only [l39_7, r39_3, opn_z, opn_s, sel_z, sel_s, qCd_eq, qIf_true, qIf_false, qFn_eq, qBl_eq, qO_some, qRes_val, qHp_some, qPick_true, qPick_false, qG_tt, qG_ff, qG_tf, qG_ft, cellsK_some, qLd_vptr, qLdA_vptr, qFa_ptr, qFa_vptr, qNc_ptr, qNc_vptr, qNc_fn, qNot_bool, qExt_tup, qCallV_fn, qLss_int, qLeq_int, qGtr_int, qGeq_int, qEql_int, qNeq_int, qAdd_int, qSub_int, qMul_int, qConvI_int, qLenL_sl, qLenL_hsl, qLenS_str, foldO, min2_int, max2_int, qSame_refl, Nat.zero_add, List.getElem?_cons_zero, List.getElem?_cons_succ, List.nil_append, List.cons_append, List.append_nil, one_bool, one_int, one_str, one_nilp, one_ptr, one_sl, one_hsl, one_map, one_fn, List.length_cons, List.length_nil, List.set_cons_zero, List.set_cons_succ, Nat.reduceLT, Nat.reduceAdd, qG_un, qResN_val, qCallVN_fn, l1, c1, decide_true, hx, h34, hb, Bool.not_true]
        rw [hi]
        exact hfin _ _ _ _ _ _
      · have hst := tqN_step z i ⟨h, by rw [hc]; simpa using hq⟩
        rw [hst, hc] at hi
        have hb : (decide (z[i] = 34)) = false := by simp [hq]
        have hw : IntKind.i64.wrap ((i : Int) + 1) = ((i + 1 : Nat) : Int) := wrap_up i (by omega)
        have hw2 : IntKind.i64.wrap (((i + 1 : Nat) : Int) + 1) = ((i + 2 : Nat) : Int) := wrap_up (i + 1) (by omega)
        by_cases hq2 : z[i] = 92
        · have hb2 : (decide (z[i] = 92)) = true := by rw [hq2]; rfl
          rw [if_pos (by rw [hq2])] at hi
          simp -implicitDefEqProofs only [l39_7, r39_3, r39_4, r39_5, r39_6, opn_z, opn_s, sel_z, sel_s, qCd_eq, qIf_true, qIf_false, qFn_eq, qBl_eq, qO_some, qRes_val, qHp_some, qPick_true, qPick_false, qG_tt, qG_ff, qG_tf, qG_ft, cellsK_some, qLd_vptr, qLdA_vptr, qFa_ptr, qFa_vptr, qNc_ptr, qNc_vptr, qNc_fn, qNot_bool, qExt_tup, qCallV_fn, qLss_int, qLeq_int, qGtr_int, qGeq_int, qEql_int, qNeq_int, qAdd_int, qSub_int, qMul_int, qConvI_int, qLenL_sl, qLenL_hsl, qLenS_str, foldO, min2_int, max2_int, qSame_refl, Nat.zero_add, List.getElem?_cons_zero, List.getElem?_cons_succ, List.nil_append, List.cons_append, List.append_nil, one_bool, one_int, one_str, one_nilp, one_ptr, one_sl, one_hsl, one_map, one_fn, List.length_cons, List.length_nil, List.set_cons_zero, List.set_cons_succ, Nat.reduceLT, Nat.reduceAdd, qG_un, qResN_val, qCallVN_fn, l1, c1, decide_true, hx, h34, hb, h92, hb2, Bool.not_false, hw, hw2]
          exact hkk (z.length + 2 - (i + 2)) _ _ (by omega) ⟨i + 2, _, _, _, _, _, _, rfl, by omega, rfl, rfl, hi⟩
        · have hb2 : (decide (z[i] = 92)) = false := by simp [hq2]
          rw [if_neg (by simpa using hq2)] at hi
          simp -implicitDefEqProofs only [l39_7, r39_3, r39_4, r39_6, opn_z, opn_s, sel_z, sel_s, qCd_eq, qIf_true, qIf_false, qFn_eq, qBl_eq, qO_some, qRes_val, qHp_some, qPick_true, qPick_false, qG_tt, qG_ff, qG_tf, qG_ft, cellsK_some, qLd_vptr, qLdA_vptr, qFa_ptr, qFa_vptr, qNc_ptr, qNc_vptr, qNc_fn, qNot_bool, qExt_tup, qCallV_fn, qLss_int, qLeq_int, qGtr_int, qGeq_int, qEql_int, qNeq_int, qAdd_int, qSub_int, qMul_int, qConvI_int, qLenL_sl, qLenL_hsl, qLenS_str, foldO, min2_int, max2_int, qSame_refl, Nat.zero_add, List.getElem?_cons_zero, List.getElem?_cons_succ, List.nil_append, List.cons_append, List.append_nil, one_bool, one_int, one_str, one_nilp, one_ptr, one_sl, one_hsl, one_map, one_fn, List.length_cons, List.length_nil, List.set_cons_zero, List.set_cons_succ, Nat.reduceLT, Nat.reduceAdd, qG_un, qResN_val, qCallVN_fn, l1, c1, decide_true, hx, h34, hb, h92, hb2, Bool.not_false, hw]
          exact hkk (z.length + 2 - (i + 1)) _ _ (by omega) ⟨i + 1, _, _, _, _, _, _, rfl, by omega, rfl, rfl, hi⟩
    · have c1 : ¬ (i : Int) < (z.length : Int) := by omega
      have hst : tqN (z.length + 1) z i = i := tqN_stop z i (by omega)
      rw [hst] at hi
      simp -implicitDefEqProofs only [l39_7, r39_3, opn_z, opn_s, sel_z, sel_s, qCd_eq, qIf_true, qIf_false, qFn_eq, qBl_eq, qO_some, qRes_val, qHp_some, qPick_true, qPick_false, qG_tt, qG_ff, qG_tf, qG_ft, cellsK_some, qLd_vptr, qLdA_vptr, qFa_ptr, qFa_vptr, qNc_ptr, qNc_vptr, qNc_fn, qNot_bool, qExt_tup, qCallV_fn, qLss_int, qLeq_int, qGtr_int, qGeq_int, qEql_int, qNeq_int, qAdd_int, qSub_int, qMul_int, qConvI_int, qLenL_sl, qLenL_hsl, qLenS_str, foldO, min2_int, max2_int, qSame_refl, Nat.zero_add, List.getElem?_cons_zero, List.getElem?_cons_succ, List.nil_append, List.cons_append, List.append_nil, one_bool, one_int, one_str, one_nilp, one_ptr, one_sl, one_hsl, one_map, one_fn, List.length_cons, List.length_nil, List.set_cons_zero, List.set_cons_succ, Nat.reduceLT, Nat.reduceAdd, qG_un, qResN_val, qCallVN_fn, l1, c1, decide_false]
      rw [hi]
      exact hfin _ _ _ _ _ _
  unfold textF
  by_cases hge : z.length ≤ qEnd z
  · rw [if_pos hge]
    simp only []
    have c1 : ((qEnd z : Nat) : Int) ≥ (z.length : Int) := by omega
    obtain ⟨H', h1, rfl⟩ := jpan (P := fun H' => H' = H1) (al := [.ptr r 0]) (H := H) e39 xf39 rfl rfl (loop fun x4 x5 x23 x30 x41 x56 => by
      simp -implicitDefEqProofs only [r39_7, r39_8, opn_z, opn_s, sel_z, sel_s, qCd_eq, qIf_true, qIf_false, qFn_eq, qBl_eq, qO_some, qRes_val, qHp_some, qPick_true, qPick_false, qG_tt, qG_ff, qG_tf, qG_ft, cellsK_some, qLd_vptr, qLdA_vptr, qFa_ptr, qFa_vptr, qNc_ptr, qNc_vptr, qNc_fn, qNot_bool, qExt_tup, qCallV_fn, qLss_int, qLeq_int, qGtr_int, qGeq_int, qEql_int, qNeq_int, qAdd_int, qSub_int, qMul_int, qConvI_int, qLenL_sl, qLenL_hsl, qLenS_str, foldO, min2_int, max2_int, qSame_refl, Nat.zero_add, List.getElem?_cons_zero, List.getElem?_cons_succ, List.nil_append, List.cons_append, List.append_nil, one_bool, one_int, one_str, one_nilp, one_ptr, one_sl, one_hsl, one_map, one_fn, List.length_cons, List.length_nil, List.set_cons_zero, List.set_cons_succ, Nat.reduceLT, Nat.reduceAdd, qG_un, qResN_val, qCallVN_fn, l1, c1, decide_true, j24, qRes_pan, rp_pan]
      exact ⟨trivial, trivial⟩)
    exact ⟨_, h1, s1.kp⟩
  · rw [if_neg hge]
    have c1 : ¬ ((qEnd z : Nat) : Int) ≥ (z.length : Int) := by omega
    have hw : IntKind.i64.wrap (((qEnd z : Nat) : Int) + 1) = ((qEnd z + 1 : Nat) : Int) := wrap_up _ (by omega)
    have e1 := fun (k : AV → RP) => slcR_hi z (qEnd z + 1) (by omega) k
    have e2 := fun (k : AV → RP) => slcR_lo z (qEnd z + 1) (by omega) k
    have h50 := fun H => j50 (z.take (qEnd z + 1)) (by rw [List.length_take]; omega) H
    cases hu : uqF (z.take (qEnd z + 1)) with
    | none =>
      rw [hu] at h50
      simp only [uqR] at h50
      simp only [Option.map_none]
      obtain ⟨H', h1, rfl⟩ := jpan (P := fun H' => H' = H1) (al := [.ptr r 0]) (H := H) e39 xf39 rfl rfl (loop fun x4 x5 x23 x30 x41 x56 => by
        simp -implicitDefEqProofs only [r39_7, r39_9, r39_10, r39_11, opn_z, opn_s, sel_z, sel_s, qCd_eq, qIf_true, qIf_false, qFn_eq, qBl_eq, qO_some, qRes_val, qHp_some, qPick_true, qPick_false, qG_tt, qG_ff, qG_tf, qG_ft, cellsK_some, qLd_vptr, qLdA_vptr, qFa_ptr, qFa_vptr, qNc_ptr, qNc_vptr, qNc_fn, qNot_bool, qExt_tup, qCallV_fn, qLss_int, qLeq_int, qGtr_int, qGeq_int, qEql_int, qNeq_int, qAdd_int, qSub_int, qMul_int, qConvI_int, qLenL_sl, qLenL_hsl, qLenS_str, foldO, min2_int, max2_int, qSame_refl, Nat.zero_add, List.getElem?_cons_zero, List.getElem?_cons_succ, List.nil_append, List.cons_append, List.append_nil, one_bool, one_int, one_str, one_nilp, one_ptr, one_sl, one_hsl, one_map, one_fn, List.length_cons, List.length_nil, List.set_cons_zero, List.set_cons_succ, Nat.reduceLT, Nat.reduceAdd, qG_un, qResN_val, qCallVN_fn, l1, c1, decide_false, hw, e1, h50, Bool.not_false, j24, qRes_pan, rp_pan]
        exact ⟨trivial, trivial⟩)
      exact ⟨_, h1, s1.kp⟩
    | some y =>
      rw [hu] at h50
      simp only [uqR] at h50
      simp only [Option.map_some]
      have s0 := fun (x : Str) (k : AV → AH → RP) => qSt_1 (o := 0) (v := .str x) s1.at_ (by simp) rfl k
      obtain ⟨v, H', h1, rfl, rfl⟩ := jval (Q := fun v H' => v = .str y ∧ H' = H1.set r (some (rs (z.drop (qEnd z + 1)) d t))) (al := [.ptr r 0]) (H := H) e39 xf39 rfl rfl rfl (loop fun x4 x5 x23 x30 x41 x56 => by
        simp -implicitDefEqProofs only [r39_7, r39_9, r39_10, r39_12, r39_13, opn_z, opn_s, sel_z, sel_s, qCd_eq, qIf_true, qIf_false, qFn_eq, qBl_eq, qO_some, qRes_val, qHp_some, qPick_true, qPick_false, qG_tt, qG_ff, qG_tf, qG_ft, cellsK_some, qLd_vptr, qLdA_vptr, qFa_ptr, qFa_vptr, qNc_ptr, qNc_vptr, qNc_fn, qNot_bool, qExt_tup, qCallV_fn, qLss_int, qLeq_int, qGtr_int, qGeq_int, qEql_int, qNeq_int, qAdd_int, qSub_int, qMul_int, qConvI_int, qLenL_sl, qLenL_hsl, qLenS_str, foldO, min2_int, max2_int, qSame_refl, Nat.zero_add, List.getElem?_cons_zero, List.getElem?_cons_succ, List.nil_append, List.cons_append, List.append_nil, one_bool, one_int, one_str, one_nilp, one_ptr, one_sl, one_hsl, one_map, one_fn, List.length_cons, List.length_nil, List.set_cons_zero, List.set_cons_succ, Nat.reduceLT, Nat.reduceAdd, qG_un, qResN_val, qCallVN_fn, l1, c1, decide_false, hw, e1, e2, h50, Bool.not_true, s0]
        exact ⟨trivial, rfl⟩)
      exact ⟨_, h1, s1.trans (Sr.set s1.at_)⟩

/-! ### a name; a word -/
def nameF (s : Str) : Option (Str × Str) := if hp (skF s) [34] then textF (skF s) else none
theorem skF_idem (s : Str) : skF (skF s) = skF s := by
  unfold skF
  induction s with
  | nil => rfl
  | cons c s ih =>
    rw [List.dropWhile_cons]
    split
    · exact ih
    · rename_i h; rw [List.dropWhile_cons, if_neg h]
theorem j36 {H : AH} [IsFn H] {r : Nat} {s : Str} {d t : Bool} (hg : H.get r = some (rs s d t)) (hl : s.length < 100000000) :
    ∃ H', EJ 36 [.ptr r 0] H = some (match nameF s with
      | some p => .val (.str p.1) H'
      | none => .panic Wr H') ∧ (match nameF s with
      | some p => Sr H H' r p.2 d t
      | none => Kp H H' (· = r)) := by
  have h23 := j23 hg
  have s1 := Sr.set (s' := skF s) (d' := d) (t' := t) hg
  generalize H.set r (some (rs (skF s) d t)) = H1 at h23 s1
  have hl1 : (skF s).length < 100000000 := Nat.lt_of_le_of_lt (skF_le s) hl
  have i1 := s1.fn
  have l1 := fun (k : AV → RP) => ldR s1.at_ 0 (.str (skF s)) rfl k
  unfold nameF
  cases hq : hp (skF s) [34] with
  | false =>
    have h38 := fun H => j38 (skF s) [34] H
    rw [hq] at h38
    simp only [Bool.false_eq_true, if_false]
    obtain ⟨H', h1, rfl⟩ := jpan (P := fun H' => H' = H1) (al := [.ptr r 0]) (H := H) e36 xf36 rfl rfl (by
      simp -implicitDefEqProofs only [c36, r36_0, r36_1, r36_2, r36_3, opn_z, opn_s, sel_z, sel_s, qCd_eq, qIf_true, qIf_false, qFn_eq, qBl_eq, qO_some, qRes_val, qHp_some, qPick_true, qPick_false, qG_tt, qG_ff, qG_tf, qG_ft, cellsK_some, qLd_vptr, qLdA_vptr, qFa_ptr, qFa_vptr, qNc_ptr, qNc_vptr, qNc_fn, qNot_bool, qExt_tup, qCallV_fn, qLss_int, qLeq_int, qGtr_int, qGeq_int, qEql_int, qNeq_int, qAdd_int, qSub_int, qMul_int, qConvI_int, qLenL_sl, qLenL_hsl, qLenS_str, foldO, min2_int, max2_int, qSame_refl, Nat.zero_add, List.getElem?_cons_zero, List.getElem?_cons_succ, List.nil_append, List.cons_append, List.append_nil, one_bool, one_int, one_str, one_nilp, one_ptr, one_sl, one_hsl, one_map, one_fn, List.length_cons, List.length_nil, List.set_cons_zero, List.set_cons_succ, Nat.reduceLT, Nat.reduceAdd, qG_un, qResN_val, qCallVN_fn, h23, l1, h38, Bool.not_false, j24, qRes_pan, rp_pan]
      exact ⟨trivial, trivial⟩)
    exact ⟨_, h1, s1.kp⟩
  | true =>
    have h38 := fun H => j38 (skF s) [34] H
    rw [hq] at h38
    simp only [if_true]
    obtain ⟨H2, h39, s2⟩ := j39 s1.at_ hl1
    rw [skF_idem] at h39 s2
    cases ht : textF (skF s) with
    | none =>
      rw [ht] at h39 s2
      simp only [] at h39 s2 ⊢
      obtain ⟨H', h1, rfl⟩ := jpan (P := fun H' => H' = H2) (al := [.ptr r 0]) (H := H) e36 xf36 rfl rfl (by
        simp -implicitDefEqProofs only [c36, r36_0, r36_1, r36_2, r36_4, opn_z, opn_s, sel_z, sel_s, qCd_eq, qIf_true, qIf_false, qFn_eq, qBl_eq, qO_some, qRes_val, qHp_some, qPick_true, qPick_false, qG_tt, qG_ff, qG_tf, qG_ft, cellsK_some, qLd_vptr, qLdA_vptr, qFa_ptr, qFa_vptr, qNc_ptr, qNc_vptr, qNc_fn, qNot_bool, qExt_tup, qCallV_fn, qLss_int, qLeq_int, qGtr_int, qGeq_int, qEql_int, qNeq_int, qAdd_int, qSub_int, qMul_int, qConvI_int, qLenL_sl, qLenL_hsl, qLenS_str, foldO, min2_int, max2_int, qSame_refl, Nat.zero_add, List.getElem?_cons_zero, List.getElem?_cons_succ, List.nil_append, List.cons_append, List.append_nil, one_bool, one_int, one_str, one_nilp, one_ptr, one_sl, one_hsl, one_map, one_fn, List.length_cons, List.length_nil, List.set_cons_zero, List.set_cons_succ, Nat.reduceLT, Nat.reduceAdd, qG_un, qResN_val, qCallVN_fn, h23, l1, h38, Bool.not_true, h39, qRes_pan, rp_pan]
        exact ⟨trivial, trivial⟩)
      exact ⟨_, h1, s1.kp.trans s2 (fun _ _ h => h)⟩
    | some y =>
      rw [ht] at h39 s2
      simp only [] at h39 s2 ⊢
      obtain ⟨v, H', h1, rfl, rfl⟩ := jval (Q := fun v H' => v = .str y.1 ∧ H' = H2) (al := [.ptr r 0]) (H := H) e36 xf36 rfl rfl rfl (by
        simp -implicitDefEqProofs only [c36, r36_0, r36_1, r36_2, r36_4, opn_z, opn_s, sel_z, sel_s, qCd_eq, qIf_true, qIf_false, qFn_eq, qBl_eq, qO_some, qRes_val, qHp_some, qPick_true, qPick_false, qG_tt, qG_ff, qG_tf, qG_ft, cellsK_some, qLd_vptr, qLdA_vptr, qFa_ptr, qFa_vptr, qNc_ptr, qNc_vptr, qNc_fn, qNot_bool, qExt_tup, qCallV_fn, qLss_int, qLeq_int, qGtr_int, qGeq_int, qEql_int, qNeq_int, qAdd_int, qSub_int, qMul_int, qConvI_int, qLenL_sl, qLenL_hsl, qLenS_str, foldO, min2_int, max2_int, qSame_refl, Nat.zero_add, List.getElem?_cons_zero, List.getElem?_cons_succ, List.nil_append, List.cons_append, List.append_nil, one_bool, one_int, one_str, one_nilp, one_ptr, one_sl, one_hsl, one_map, one_fn, List.length_cons, List.length_nil, List.set_cons_zero, List.set_cons_succ, Nat.reduceLT, Nat.reduceAdd, qG_un, qResN_val, qCallVN_fn, h23, l1, h38, Bool.not_true, h39]
        exact ⟨trivial, trivial⟩)
      exact ⟨_, h1, s1.trans s2⟩

/-- a word's value -/
def wordV (w : Str) : Option Val :=
  if w = [110, 117, 108, 108] then some (.mk 1 [] [] [])
  else if w = [116, 114, 117, 101] ∨ w = [102, 97, 108, 115, 101] then some (.mk 2 w [] [])
  else if (num w).2 = false then none
  else if (num w).1 then some (.mk 3 w [] []) else some (.mk 4 w [] [])
def valRow (k : Int) (s : Str) : List AV := [.int .i64 k, .str s, .sl [] .nil, .sl [] .nil]
theorem valRow_EV (k : Int) (s : Str) : EV (.mk k s [] []) (valRow k s) := ⟨_, _, _, rfl, rfl⟩
end T
set_option linter.unusedVariables false
set_option linter.unusedSimpArgs false
set_option maxRecDepth 10000
namespace T
open Go Go.Aes Go.Proofs

def wordK (w : Str) : Option (Int × Str) :=
  if w = [110, 117, 108, 108] then some (1, [])
  else if w = [116, 114, 117, 101] ∨ w = [102, 97, 108, 115, 101] then some (2, w)
  else if (num w).2 = false then none
  else if (num w).1 then some (3, w) else some (4, w)
/-- a cell of a value, new: written whole, read again -/
theorem cellV {H : AH} [IsFn H] {r : Nat} {s : Str} {d t : Bool} (hg : H.get r = some (rs s d t)) : ∃ (vi : Nat) (H1 : AH), IsFn H1 ∧ (∀ k : AV → AH → RP, qNew (.cells z26) .ptr H k = k (.ptr vi 0) H1) ∧ Sr H H1 r s d t ∧ H1.get vi = some (.cells z26) ∧ r ≠ vi ∧ H.nx ≤ vi := by
  have hat := get_push_at (H := H) (.cells z26)
  have hr := lt_i hg
  refine ⟨H.nx, H.push (.cells z26), inferInstance, fun k => by rw [qNew_i]; rfl, ⟨Kp.push _ _, by rw [get_push_lt _ hr]; exact hg⟩, hat, by omega, Nat.le_refl _⟩
theorem Sr.other {H H' : AH} {r j : Nat} {s : Str} {d t : Bool} (h : Sr H H' r s d t) {o : AO} (hj : H.get j = some o) [IsFn H] (hne : j ≠ r) : H'.get j = some o := (h.kp.keep j (lt_i hj) hne).trans hj
/-- .. a new cell written -/
theorem Sr.put {H0 H : AH} {r vi : Nat} {s : Str} {d t : Bool} (h : Sr H0 H r s d t) {o : AO} (hg : H.get vi = some o) (hne : r ≠ vi) (hle : H0.nx ≤ vi) (o' : AO) : Sr H0 (H.set vi (some o')) r s d t ∧ (H.set vi (some o')).get vi = some o' := by
  have i1 := h.fn
  have hlt := lt_i hg
  refine ⟨⟨⟨inferInstance, by rw [AH.nx_set]; exact h.kp.nx, fun j hj hp => ?_⟩, by rw [get_set_i hlt, if_neg hne]; exact h.at_⟩, by rw [get_set_i hlt, if_pos rfl]⟩
  rw [get_set_i hlt, if_neg (by omega)]
  exact h.kp.keep j hj hp
theorem j40 {H : AH} [IsFn H] {r : Nat} {s : Str} {d t : Bool} (hg : H.get r = some (rs s d t)) (hl : s.length < 100000000) :
    ∃ H', EJ 40 [.ptr r 0] H = some (match wordK (s.takeWhile wdB) with
      | some p => .val (.agg (valRow p.1 p.2)) H'
      | none => .panic Wr H') ∧ (match wordK (s.takeWhile wdB) with
      | some p => Sr H H' r (s.dropWhile wdB) d t
      | none => Kp H H' (· = r)) := by
  obtain ⟨vi, H1, i1, n1, s1, g1, hne, hle⟩ := cellV hg
  obtain ⟨H2, h51, s2⟩ := j51 s1.at_ (by omega)
  have i2 := s2.fn
  have g2 := s2.other g1 (Ne.symm hne)
  have hwl : (s.takeWhile wdB).length < 1000000000000 := by
    have := (List.takeWhile_sublist (p := wdB) (l := s)).length_le
    omega
  have h54 := fun H => j54 (s.takeWhile wdB) hwl H
  have s12 := s1.trans s2
  generalize s.takeWhile wdB = w at h51 h54 hwl ⊢
  have st := fun (k : Int) (x : Str) (kk : AV → AH → RP) => qSt_whole (n := 4) (l := valRow k x) g2 rfl rfl rfl kk
  have sp := fun (k : Int) (x : Str) => s12.put g2 hne hle (.cells (valRow k x))
  have ld := fun (k : Int) (x : Str) (kk : AV → RP) => qLdA_whole (n := 4) (sp k x).2 rfl kk
  have b1 : ∀ (k : Int) (kk : AV → RP), qBld z26 [(0, 1, .int .i64 k)] kk = kk (.agg (valRow k [])) := fun k kk => by kernel_rfl
  have b2 : ∀ (k : Int) (x : Str) (kk : AV → RP), qBld z26 [(0, 1, .int .i64 k), (1, 1, .str x)] kk = kk (.agg (valRow k x)) := fun k x kk => by kernel_rfl
  have good : ∀ (k : Int) (x : Str), c40 (R := RP) EJ [.ptr r 0] H (fun v H' _ => v = .agg (valRow k x) ∧ H' = H2.set vi (some (.cells (valRow k x)))) (fun _ _ => False) →
      ∃ H', EJ 40 [.ptr r 0] H = some (.val (.agg (valRow k x)) H') ∧ Sr H H' r (s.dropWhile wdB) d t := by
    intro k x h
    obtain ⟨v, H', h1, rfl, rfl⟩ := jval (Q := fun v H' => v = .agg (valRow k x) ∧ H' = H2.set vi (some (.cells (valRow k x)))) (al := [.ptr r 0]) (H := H) e40 xf40 rfl rfl rfl h
    exact ⟨_, h1, (sp k x).1⟩
  unfold wordK
  by_cases w1 : w = [110, 117, 108, 108]
  · rw [if_pos w1]
    have d1 : decide (w = [110, 117, 108, 108]) = true := by simp [w1]
    exact good 1 [] (by
      simp -implicitDefEqProofs only [c40, r40_0, r40_1, r40_2, r40_3, r40_4, opn_z, opn_s, sel_z, sel_s, qCd_eq, qIf_true, qIf_false, qFn_eq, qBl_eq, qO_some, qRes_val, qHp_some, qPick_true, qPick_false, qG_tt, qG_ff, qG_tf, qG_ft, cellsK_some, qLd_vptr, qLdA_vptr, qFa_ptr, qFa_vptr, qNc_ptr, qNc_vptr, qNc_fn, qNot_bool, qExt_tup, qCallV_fn, qLss_int, qLeq_int, qGtr_int, qGeq_int, qEql_int, qNeq_int, qAdd_int, qSub_int, qMul_int, qConvI_int, qLenL_sl, qLenL_hsl, qLenS_str, foldO, min2_int, max2_int, qSame_refl, Nat.zero_add, List.getElem?_cons_zero, List.getElem?_cons_succ, List.nil_append, List.cons_append, List.append_nil, one_bool, one_int, one_str, one_nilp, one_ptr, one_sl, one_hsl, one_map, one_fn, List.length_cons, List.length_nil, List.set_cons_zero, List.set_cons_succ, Nat.reduceLT, Nat.reduceAdd, qG_un, qResN_val, qCallVN_fn, n1, h51, h54, qEql_str, d1, b1, st, ld, qPtr_ptr]
      exact ⟨trivial, trivial⟩)
  · rw [if_neg w1]
    have d1 : decide (w = [110, 117, 108, 108]) = false := by simp [w1]
    by_cases w2 : w = [116, 114, 117, 101] ∨ w = [102, 97, 108, 115, 101]
    · rw [if_pos w2]
      by_cases w3 : w = [116, 114, 117, 101]
      · have d2 : decide (w = [116, 114, 117, 101]) = true := by simp [w3]
        exact good 2 w (by
          simp -implicitDefEqProofs only [c40, r40_0, r40_1, r40_2, r40_3, r40_5, r40_6, opn_z, opn_s, sel_z, sel_s, qCd_eq, qIf_true, qIf_false, qFn_eq, qBl_eq, qO_some, qRes_val, qHp_some, qPick_true, qPick_false, qG_tt, qG_ff, qG_tf, qG_ft, cellsK_some, qLd_vptr, qLdA_vptr, qFa_ptr, qFa_vptr, qNc_ptr, qNc_vptr, qNc_fn, qNot_bool, qExt_tup, qCallV_fn, qLss_int, qLeq_int, qGtr_int, qGeq_int, qEql_int, qNeq_int, qAdd_int, qSub_int, qMul_int, qConvI_int, qLenL_sl, qLenL_hsl, qLenS_str, foldO, min2_int, max2_int, qSame_refl, Nat.zero_add, List.getElem?_cons_zero, List.getElem?_cons_succ, List.nil_append, List.cons_append, List.append_nil, one_bool, one_int, one_str, one_nilp, one_ptr, one_sl, one_hsl, one_map, one_fn, List.length_cons, List.length_nil, List.set_cons_zero, List.set_cons_succ, Nat.reduceLT, Nat.reduceAdd, qG_un, qResN_val, qCallVN_fn, n1, h51, h54, qEql_str, d1, d2, b2, st, ld, qPtr_ptr]
          exact ⟨trivial, trivial⟩)
      · have d2 : decide (w = [116, 114, 117, 101]) = false := by simp [w3]
        have d3 : decide (w = [102, 97, 108, 115, 101]) = true := by simpa [w3] using w2
        exact good 2 w (by
          simp -implicitDefEqProofs only [c40, r40_0, r40_1, r40_2, r40_3, r40_5, r40_6, opn_z, opn_s, sel_z, sel_s, qCd_eq, qIf_true, qIf_false, qFn_eq, qBl_eq, qO_some, qRes_val, qHp_some, qPick_true, qPick_false, qG_tt, qG_ff, qG_tf, qG_ft, cellsK_some, qLd_vptr, qLdA_vptr, qFa_ptr, qFa_vptr, qNc_ptr, qNc_vptr, qNc_fn, qNot_bool, qExt_tup, qCallV_fn, qLss_int, qLeq_int, qGtr_int, qGeq_int, qEql_int, qNeq_int, qAdd_int, qSub_int, qMul_int, qConvI_int, qLenL_sl, qLenL_hsl, qLenS_str, foldO, min2_int, max2_int, qSame_refl, Nat.zero_add, List.getElem?_cons_zero, List.getElem?_cons_succ, List.nil_append, List.cons_append, List.append_nil, one_bool, one_int, one_str, one_nilp, one_ptr, one_sl, one_hsl, one_map, one_fn, List.length_cons, List.length_nil, List.set_cons_zero, List.set_cons_succ, Nat.reduceLT, Nat.reduceAdd, qG_un, qResN_val, qCallVN_fn, n1, h51, h54, qEql_str, d1, d2, d3, b2, st, ld, qPtr_ptr]
          exact ⟨trivial, trivial⟩)
    · rw [if_neg w2]
      have d2 : decide (w = [116, 114, 117, 101]) = false := decide_eq_false fun h => w2 (.inl h)
      have d3 : decide (w = [102, 97, 108, 115, 101]) = false := decide_eq_false fun h => w2 (.inr h)
      cases hn : (num w).2 with
      | false =>
        rw [hn] at h54
        simp only [if_true]
        obtain ⟨H', h1, rfl⟩ := jpan (P := fun H' => H' = H2) (al := [.ptr r 0]) (H := H) e40 xf40 rfl rfl (by
          simp -implicitDefEqProofs only [c40, r40_0, r40_1, r40_2, r40_3, r40_5, r40_7, r40_8, opn_z, opn_s, sel_z, sel_s, qCd_eq, qIf_true, qIf_false, qFn_eq, qBl_eq, qO_some, qRes_val, qHp_some, qPick_true, qPick_false, qG_tt, qG_ff, qG_tf, qG_ft, cellsK_some, qLd_vptr, qLdA_vptr, qFa_ptr, qFa_vptr, qNc_ptr, qNc_vptr, qNc_fn, qNot_bool, qExt_tup, qCallV_fn, qLss_int, qLeq_int, qGtr_int, qGeq_int, qEql_int, qNeq_int, qAdd_int, qSub_int, qMul_int, qConvI_int, qLenL_sl, qLenL_hsl, qLenS_str, foldO, min2_int, max2_int, qSame_refl, Nat.zero_add, List.getElem?_cons_zero, List.getElem?_cons_succ, List.nil_append, List.cons_append, List.append_nil, one_bool, one_int, one_str, one_nilp, one_ptr, one_sl, one_hsl, one_map, one_fn, List.length_cons, List.length_nil, List.set_cons_zero, List.set_cons_succ, Nat.reduceLT, Nat.reduceAdd, qG_un, qResN_val, qCallVN_fn, n1, h51, h54, qEql_str, d1, d2, d3, Bool.not_false, j24, qRes_pan, rp_pan]
          exact ⟨trivial, trivial⟩)
        exact ⟨_, h1, s12.kp⟩
      | true =>
        rw [hn] at h54
        simp only [Bool.true_eq_false, if_false]
        cases hm : (num w).1 with
        | true =>
          rw [hm] at h54
          simp only [if_true]
          exact good 3 w (by
            simp -implicitDefEqProofs only [c40, r40_0, r40_1, r40_2, r40_3, r40_5, r40_7, r40_9, r40_10, opn_z, opn_s, sel_z, sel_s, qCd_eq, qIf_true, qIf_false, qFn_eq, qBl_eq, qO_some, qRes_val, qHp_some, qPick_true, qPick_false, qG_tt, qG_ff, qG_tf, qG_ft, cellsK_some, qLd_vptr, qLdA_vptr, qFa_ptr, qFa_vptr, qNc_ptr, qNc_vptr, qNc_fn, qNot_bool, qExt_tup, qCallV_fn, qLss_int, qLeq_int, qGtr_int, qGeq_int, qEql_int, qNeq_int, qAdd_int, qSub_int, qMul_int, qConvI_int, qLenL_sl, qLenL_hsl, qLenS_str, foldO, min2_int, max2_int, qSame_refl, Nat.zero_add, List.getElem?_cons_zero, List.getElem?_cons_succ, List.nil_append, List.cons_append, List.append_nil, one_bool, one_int, one_str, one_nilp, one_ptr, one_sl, one_hsl, one_map, one_fn, List.length_cons, List.length_nil, List.set_cons_zero, List.set_cons_succ, Nat.reduceLT, Nat.reduceAdd, qG_un, qResN_val, qCallVN_fn, n1, h51, h54, qEql_str, d1, d2, d3, Bool.not_true, b2, st, ld, qPtr_ptr]
            exact ⟨trivial, trivial⟩)
        | false =>
          rw [hm] at h54
          simp only [Bool.false_eq_true, if_false]
          exact good 4 w (by
            simp -implicitDefEqProofs only [c40, r40_0, r40_1, r40_2, r40_3, r40_5, r40_7, r40_9, r40_11, opn_z, opn_s, sel_z, sel_s, qCd_eq, qIf_true, qIf_false, qFn_eq, qBl_eq, qO_some, qRes_val, qHp_some, qPick_true, qPick_false, qG_tt, qG_ff, qG_tf, qG_ft, cellsK_some, qLd_vptr, qLdA_vptr, qFa_ptr, qFa_vptr, qNc_ptr, qNc_vptr, qNc_fn, qNot_bool, qExt_tup, qCallV_fn, qLss_int, qLeq_int, qGtr_int, qGeq_int, qEql_int, qNeq_int, qAdd_int, qSub_int, qMul_int, qConvI_int, qLenL_sl, qLenL_hsl, qLenS_str, foldO, min2_int, max2_int, qSame_refl, Nat.zero_add, List.getElem?_cons_zero, List.getElem?_cons_succ, List.nil_append, List.cons_append, List.append_nil, one_bool, one_int, one_str, one_nilp, one_ptr, one_sl, one_hsl, one_map, one_fn, List.length_cons, List.length_nil, List.set_cons_zero, List.set_cons_succ, Nat.reduceLT, Nat.reduceAdd, qG_un, qResN_val, qCallVN_fn, n1, h51, h54, qEql_str, d1, d2, d3, Bool.not_true, b2, st, ld, qPtr_ptr]
            exact ⟨trivial, trivial⟩)
end T
set_option linter.unusedVariables false
set_option linter.unusedSimpArgs false
set_option maxRecDepth 10000
namespace T
open Go Go.Aes Go.Proofs

/-! ### a value, plainly -/
structure JS where
  s : Str
  d : Bool
  t : Bool
  ns : List Str
  vs : List Val
def endS (o : Bool) : Str := if o then [125] else [93]
mutual
def valF : Nat → Nat → Str → Bool → Bool → Option (Val × Str × Bool × Bool)
  | 0, _, _, _, _ => none
  | n + 1, deep, s, d, t =>
    if hasB s [91] then (lstF n false deep ⟨hasS s [91], d || decide (12 < deep), t, [], []⟩).map fun j => (.mk 7 [] j.ns j.vs, j.s, j.d, j.t)
    else if hasB (hasS s [91]) [123] then (lstF n true deep ⟨hasS (hasS s [91]) [123], d || decide (12 < deep), t, [], []⟩).map fun j => (.mk 8 [] j.ns j.vs, j.s, j.d, j.t)
    else if hp (hasS (hasS s [91]) [123]) [34] then (textF (skF (hasS (hasS s [91]) [123]))).map fun p => (.mk 5 p.1 [] [], p.2, d || decide (12 < deep), t)
    else (wordK ((hasS (hasS s [91]) [123]).takeWhile wdB)).map fun p => (.mk p.1 p.2 [] [], (hasS (hasS s [91]) [123]).dropWhile wdB, d || decide (12 < deep), t)
def lstF : Nat → Bool → Nat → JS → Option JS
  | 0, _, _, _ => none
  | n + 1, o, deep, j =>
    if hasB j.s (endS o) then some { j with s := hasS j.s (endS o) }
    else (ptF n o deep { j with s := hasS j.s (endS o) }).bind fun j => itF n o deep j
def itF : Nat → Bool → Nat → JS → Option JS
  | 0, _, _, _ => none
  | n + 1, o, deep, j =>
    if hasB j.s [44] then (ptF n o deep { j with s := hasS j.s [44] }).bind fun j => itF n o deep j
    else if hasB (hasS j.s [44]) (endS o) then some { j with s := hasS (hasS j.s [44]) (endS o) } else none
def ptF : Nat → Bool → Nat → JS → Option JS
  | 0, _, _, _ => none
  | n + 1, false, deep, j => (valF n (deep + 1) j.s j.d j.t).map fun q => ⟨q.2.1, q.2.2.1, q.2.2.2, j.ns, j.vs ++ [q.1]⟩
  | n + 1, true, deep, j => (nameF j.s).bind fun p =>
      if hasB p.2 [58] then (valF n (deep + 1) (hasS p.2 [58]) j.d (j.t || j.ns.contains p.1)).map fun q => ⟨q.2.1, q.2.2.1, q.2.2.2, j.ns ++ [p.1], j.vs ++ [q.1]⟩ else none
end

/-! #### what is taken -/
theorem cutP_le (s p : Str) : (cutP s p).length ≤ s.length := by unfold cutP; split <;> simp
theorem hasS_le (s p : Str) : (hasS s p).length ≤ s.length := Nat.le_trans (cutP_le _ _) (skF_le s)
theorem hasS_lt {s : Str} {c : UInt8} (h : hasB s [c] = true) : (hasS s [c]).length < s.length := by
  have h1 := hp_le h
  have h2 := skF_le s
  unfold hasS cutP
  unfold hasB at h
  rw [if_pos h]
  simp at h1 ⊢
  omega
theorem qEnd_pos (s : Str) : 1 ≤ qEnd s := by
  have : ∀ (f : Nat) (s : Str) (n : Nat), n ≤ tqN f s n := by
    intro f
    induction f with
    | zero => intro s n; exact Nat.le_refl _
    | succ f ih =>
      intro s n
      unfold tqN
      split
      · refine Nat.le_trans ?_ (ih s _)
        split <;> omega
      · exact Nat.le_refl _
  exact this _ s 1
theorem textF_lt {s : Str} {p : Str × Str} (h : textF s = some p) : p.2.length < s.length := by
  unfold textF at h
  split at h
  · cases h
  · rename_i hlt
    obtain ⟨y, _, rfl⟩ := Option.map_eq_some_iff.1 h
    have := qEnd_pos s
    simp
    omega
theorem nameF_lt {s : Str} {p : Str × Str} (h : nameF s = some p) : p.2.length < s.length := by
  unfold nameF at h
  split at h
  · exact Nat.lt_of_lt_of_le (textF_lt h) (skF_le s)
  · cases h
theorem endS_one (o : Bool) : ∃ c, endS o = [c] := by cases o <;> exact ⟨_, rfl⟩
theorem num_nil : (num []).2 = false := by kernel_rfl
theorem wordK_ne {w : Str} {p : Int × Str} (h : wordK w = some p) : w ≠ [] := by
  rintro rfl
  unfold wordK at h
  rw [num_nil] at h
  simp at h
theorem drop_lt {s : Str} (h : s.takeWhile wdB ≠ []) : (s.dropWhile wdB).length < s.length := by
  have h1 := congrArg List.length (List.takeWhile_append_dropWhile (p := wdB) (l := s))
  rw [List.length_append] at h1
  have : 0 < (s.takeWhile wdB).length := List.length_pos_iff.2 h
  omega
theorem lenF : ∀ n, (∀ deep s d t q, valF n deep s d t = some q → q.2.1.length < s.length) ∧ (∀ o deep j j', lstF n o deep j = some j' → j'.s.length < j.s.length) ∧
    (∀ o deep j j', itF n o deep j = some j' → j'.s.length < j.s.length) ∧ (∀ o deep j j', ptF n o deep j = some j' → j'.s.length < j.s.length) := by
  intro n
  induction n with
  | zero => exact ⟨fun deep s d t q h => by simp [valF] at h, fun o deep j j' h => by simp [lstF] at h, fun o deep j j' h => by simp [itF] at h, fun o deep j j' h => by simp [ptF] at h⟩
  | succ n ih =>
    obtain ⟨i1, i2, i3, i4⟩ := ih
    refine ⟨fun deep s d t q h => ?_, fun o deep j j' h => ?_, fun o deep j j' h => ?_, fun o deep j j' h => ?_⟩
    · unfold valF at h
      have l1 := hasS_le s [91]
      have l2 := hasS_le (hasS s [91]) [123]
      split at h
      · rename_i hb
        obtain ⟨j, hj, rfl⟩ := Option.map_eq_some_iff.1 h
        have := i2 _ _ _ _ hj
        have := hasS_lt hb
        simp only at *
        omega
      · split at h
        · rename_i hb
          obtain ⟨j, hj, rfl⟩ := Option.map_eq_some_iff.1 h
          have := i2 _ _ _ _ hj
          have := hasS_lt hb
          simp only at *
          omega
        · split at h
          · obtain ⟨p, hp', rfl⟩ := Option.map_eq_some_iff.1 h
            have := textF_lt hp'
            have := skF_le (hasS (hasS s [91]) [123])
            simp only at *
            omega
          · obtain ⟨p, hp', rfl⟩ := Option.map_eq_some_iff.1 h
            have := drop_lt (wordK_ne hp')
            simp only at *
            omega
    · unfold lstF at h
      obtain ⟨c, hc⟩ := endS_one o
      have l1 := hasS_le j.s (endS o)
      split at h
      · rename_i hb
        injection h with h
        subst h
        rw [hc] at hb ⊢
        exact hasS_lt hb
      · obtain ⟨j1, h1, h2⟩ := Option.bind_eq_some_iff.1 h
        have a1 := i4 _ _ _ _ h1
        have a2 := i3 _ _ _ _ h2
        simp only at *
        omega
    · unfold itF at h
      obtain ⟨c, hc⟩ := endS_one o
      have l1 := hasS_le j.s [44]
      split at h
      · rename_i hb
        obtain ⟨j1, h1, h2⟩ := Option.bind_eq_some_iff.1 h
        have a1 := i4 _ _ _ _ h1
        have a2 := i3 _ _ _ _ h2
        have a3 := hasS_lt hb
        simp only at *
        omega
      · split at h
        · rename_i hb
          injection h with h
          subst h
          rw [hc] at hb ⊢
          have := hasS_lt hb
          simp only at *
          omega
        · cases h
    · cases o with
      | false =>
        unfold ptF at h
        obtain ⟨q, hq, rfl⟩ := Option.map_eq_some_iff.1 h
        exact i1 _ _ _ _ _ hq
      | true =>
        unfold ptF at h
        obtain ⟨p, hp', h⟩ := Option.bind_eq_some_iff.1 h
        split at h
        · rename_i hb
          obtain ⟨q, hq, rfl⟩ := Option.map_eq_some_iff.1 h
          have a1 := i1 _ _ _ _ _ hq
          have a2 := nameF_lt hp'
          have a3 := hasS_lt hb
          simp only at *
          omega
        · cases h

/-! ### a list that is appended to in place -/
def zrow : List AV := [.int .i64 0, .str [], .sl [] .nil, .sl [] .nil]
def LV (H : AH) (v : AV) (rows : List (List AV)) : Prop := (v = .sl [] .nil ∧ rows = []) ∨ (rows ≠ [] ∧ ∃ j, v = .hsl j 0 rows.length rows.length 4 true ∧ H.get j = some (.cells rows.flatten))
def lvAt (v : AV) (i : Nat) : Prop := ∃ n, v = .hsl i 0 n n 4 true
theorem LV.one {H : AH} {v : AV} {rows : List (List AV)} (h : LV H v rows) : one v = true := by
  rcases h with ⟨rfl, _⟩ | ⟨_, j, rfl, _⟩ <;> rfl
theorem LV.len {R : Type} [Mon R] {H : AH} {v : AV} {rows : List (List AV)} (h : LV H v rows) (k : AV → R) : qLenL v k = k (.int .i64 (rows.length : Int)) := by
  rcases h with ⟨rfl, rfl⟩ | ⟨_, j, rfl, _⟩ <;> rfl
theorem LV.keep {H H' : AH} {v : AV} {rows : List (List AV)} (h : LV H v rows) (k : ∀ j, lvAt v j → H'.get j = H.get j) : LV H' v rows := by
  rcases h with h | ⟨h1, j, rfl, h2⟩
  · exact .inl h
  · exact .inr ⟨h1, j, rfl, (k j ⟨_, rfl⟩).trans h2⟩
theorem flat4 {rows : List (List AV)} (h : ∀ r ∈ rows, r.length = 4) : rows.flatten.length = rows.length * 4 := by
  induction rows with
  | nil => rfl
  | cons a l ih =>
    rw [List.flatten_cons, List.length_append, h a (by simp), ih (fun r hr => h r (by simp [hr])), List.length_cons]
    omega
theorem LV.app {H : AH} [IsFn H] {v : AV} {rows : List (List AV)} (h : LV H v rows) (hr : ∀ r ∈ rows, r.length = 4) (hl : rows.length < 100000000000) :
    ∃ j H', (∀ {R : Type} [Mon R] (k : AV → AH → R), qApp 4 72 v (.sl [zrow] .full) true none H k = k (.hsl j 0 (rows.length + 1) (rows.length + 1) 4 true) H') ∧ IsFn H' ∧ H'.get j = some (.cells (rows.flatten ++ zrow)) ∧ H.nx ≤ j ∧ Kp H H' (lvAt v) := by
  have hm : ((rows.length + 1) * 73).blt most = true := by rw [Nat.blt_eq]; unfold most; omega
  have hz : (zrow.length.beq 4) = true := rfl
  rcases h with ⟨rfl, rfl⟩ | ⟨hne, i, rfl, hg⟩
  · refine ⟨H.nx, H.push (.cells zrow), fun {R} _ k => ?_, inferInstance, get_push_at _, Nat.le_refl _, Kp.push _ _⟩
    unfold qApp
    have : Aes.app 4 72 (.sl [] .nil) (.sl [zrow] .full) true none H = some (.hsl H.nx 0 1 1 4 true, H.push (.cells zrow)) := by
      unfold Aes.app
      have h1 : readRows 4 (.sl [zrow] .full) H = some [zrow] := rfl
      rw [h1]
      show (match H.new (.cells zrow) with
        | some (i, H2) => some (AV.hsl i 0 (0 + 1) (0 + 1) 4 true, H2)
        | none => none) = _
      rw [new_i]
    rw [this]
    exact qHp_some _ _ _
  · have hi := lt_i hg
    refine ⟨H.nx, (H.set i none).push (.cells (rows.flatten ++ zrow)), fun {R} _ k => ?_, inferInstance, ?_, Nat.le_refl _, ?_⟩
    · unfold qApp
      have : Aes.app 4 72 (.hsl i 0 rows.length rows.length 4 true) (.sl [zrow] .full) true none H = some (.hsl H.nx 0 (rows.length + 1) (rows.length + 1) 4 true, (H.set i none).push (.cells (rows.flatten ++ zrow))) := by
        unfold Aes.app
        have h1 : readRows 4 (.sl [zrow] .full) H = some [zrow] := rfl
        have hs : slice? rows.flatten 0 (rows.length * 4) = some rows.flatten := slice_whole _ _ (flat4 hr)
        rw [h1]
        show (bif !true || !((rows.length + 1) * 73).blt most || !Nat.beq 4 4 || !Nat.beq 0 0 || !H.okI i || !allOne [zrow].flatten then none else
          match H.get i with
          | some ob => match ob.unT none with
            | some cs => match slice? cs 0 (rows.length * 4) with
              | some old => match (H.set i none).new (.cells (old ++ zrow)) with
                | some (j, H2) => some (AV.hsl j 0 (rows.length + 1) (rows.length + 1) 4 true, H2)
                | none => none
              | none => none
            | none => none
          | none => none) = _
        rw [hm, okI_i hi, hg]
        show (match slice? rows.flatten 0 (rows.length * 4) with
              | some old => match (H.set i none).new (.cells (old ++ zrow)) with
                | some (j, H2) => some (AV.hsl j 0 (rows.length + 1) (rows.length + 1) 4 true, H2)
                | none => none
              | none => none) = _
        rw [hs]
        simp only [new_i, AH.nx_set]
      rw [this]
      exact qHp_some _ _ _
    · have := get_push_at (H := H.set i none) (.cells (rows.flatten ++ zrow))
      rwa [AH.nx_set] at this
    · exact (Kp.set none hi).trans (Kp.push _ (fun _ => False)) (fun _ _ h => h.elim) |>.mono (fun j _ e => ⟨rows.length, by rw [e]⟩)
theorem setRange_tail (a b c : List AV) (h : b.length = c.length) : setRange (a ++ b) a.length c = some (a ++ c) := by
  unfold setRange
  have : (a.length + c.length).ble (a ++ b).length = true := by rw [List.length_append, ← h]; simp
  rw [this]
  simp only [cond_true, Option.some.injEq, List.take_left]
  rw [← h, ← List.length_append, List.drop_length, List.append_nil]
theorem qSt_tail {R : Type} [Mon R] {H : AH} [IsFn H] {j n : Nat} {a b row : List AV} (hg : H.get j = some (.cells (a ++ b))) (ha : a.length = n) (hb : b.length = 4) (hr : row.length = 4) (ho : allOne row = true) (k : AV → AH → R) :
    qSt 4 (.ptr j n) (.agg row) H k = k Aes.undef (H.set j (some (.cells (a ++ row)))) := by
  subst ha
  have hn : row.length.beq 4 = true := by rw [hr]; rfl
  rw [qSt_ptr, cells_agg, hn, ho, okI_i (lt_i hg), hg]
  simp only [Bool.and_self, cond_true, stK_some, setRange_tail a b row (by rw [hb, hr]), qO_some]
end T
