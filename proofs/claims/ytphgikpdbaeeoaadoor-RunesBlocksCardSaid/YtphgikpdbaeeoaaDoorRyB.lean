import Derived.Test.YtphgikpdbaeeoaaDoorRyA
set_option linter.all false
set_option linter.unusedVariables false
set_option linter.unusedSimpArgs false
set_option maxRecDepth 10000
namespace T
open Go Go.Aes Go.Proofs

/-! ### a block's lines -/
def cmn : Int → List Str → Int
  | c, [] => c
  | c, l :: r => cmn (if ind l < l.length ∧ (c < 0 ∨ (ind l : Int) < c) then (ind l : Int) else c) r
def cutL (c : Int) (l : Str) : Str := l.drop (min c.toNat (ind l))
def ddL : List Str → List Str
  | [] => []
  | l :: r => l :: r.map (cutL (cmn (-1) r))
def trimE (L : List Str) : List Str := (L.reverse.dropWhile blank).reverse
def blkF (L : List Str) : Str := Lib.join (trimE ((ddL L).dropWhile blank)) [10]

theorem trimE_snoc (l : List Str) (x : Str) : trimE (l ++ [x]) = if blank x then trimE l else l ++ [x] := by
  unfold trimE
  rw [List.reverse_append]
  show ((x :: l.reverse).dropWhile blank).reverse = _
  rw [List.dropWhile_cons]
  cases blank x <;> simp
theorem cmn_at {c : Int} {r : List Str} {j : Nat} (h : j < r.length) : cmn c (r.drop j) = cmn (if ind r[j] < r[j].length ∧ (c < 0 ∨ (ind r[j] : Int) < c) then (ind r[j] : Int) else c) (r.drop (j + 1)) := by
  rw [List.drop_eq_getElem_cons h]
  rfl
theorem join_le (B : Nat) : ∀ xs : List Str, (∀ l ∈ xs, l.length ≤ B) → (Lib.join xs [10]).length ≤ xs.length * (B + 1)
  | [], _ => by rw [Lib.join_nil]; simp
  | x :: r, h => by
    rw [Lib.join_cons, List.length_append]
    have h1 := h x (by simp)
    have h2 : ∀ r : List Str, (∀ l ∈ r, l.length ≤ B) → (Lib.joinTail [10] r).length ≤ r.length * (B + 1) := by
      intro r
      unfold Lib.joinTail
      induction r with
      | nil => intro _; simp
      | cons y r ih =>
        intro h
        have h3 := h y (by simp)
        have h4 := ih (fun l hl => h l (by simp [hl]))
        simp only [List.map_cons, List.flatten_cons, List.length_append, List.length_cons, List.length_nil]
        rw [Nat.add_mul]
        omega
    have h5 := h2 r (fun l hl => h l (by simp [hl]))
    simp only [List.length_cons]
    rw [Nat.add_mul]
    omega
theorem join_ok {D xs : List Str} (hD : ∀ l ∈ D, l.length < 1000000) (hL : D.length < 1000000) (hx : ∀ l ∈ xs, l ∈ D) (hn : xs.length ≤ D.length) : (Lib.join xs [10]).length ≤ 140737488355328 := by
  have h1 := join_le 1000000 xs (fun l hl => Nat.le_of_lt (hD l (hx l hl)))
  have h2 : xs.length * (1000000 + 1) ≤ 1000000 * (1000000 + 1) := Nat.mul_le_mul_right _ (by omega)
  omega

theorem blk_end {D : List Str} (hD : ∀ l ∈ D, l.length < 1000000) (hL : D.length < 1000000) {H1 : AH} [IsFn H1] {i a m c : Nat} (g : H1.get i = some (.cells (D.map .str))) (ham : a + m ≤ D.length) (hc : m ≤ c) (V : Str)
    (hV : V = Lib.join (trimE ((D.drop a).take m)) [10]) (x0 x2 x4 x6 x7 x8 x15 x16 x17 x18 x35 x40 x41 x42 x73 x88 : AV) :
    qLoop (l38_4 EP4 (r38_20 EP4 (fun fr (_ : AH) => (sel 1 fr).kill = .str V))) [x0, x2, .hsl i a m c 1 true, x4, x6, x7, x8, .fn (.func 65) [] [], x15, x16, x17, x18, x35, x40, x41, x42, x73, x88] H1 := by
  refine loop_inv (fun m' fr H' => ∃ (q : Nat) (x0 x2 x4 x6 x7 x8 x15 x16 x17 x18 x35 x40 x41 x42 x73 x88 : AV), m' = q ∧ q ≤ m ∧ fr = [x0, x2, .hsl i a q c 1 true, x4, x6, x7, x8, .fn (.func 65) [] [], x15, x16, x17, x18, x35, x40, x41, x42, x73, x88] ∧ H' = H1 ∧ trimE ((D.drop a).take m) = trimE ((D.drop a).take q)) ?_ (m := m) ?_
  case refine_2 => exact ⟨m, _, _, _, _, _, _, _, _, _, _, _, _, _, _, _, _, rfl, Nat.le_refl _, rfl, rfl, rfl⟩
  rintro m' fr H' k ⟨q, x0, x2, x4, x6, x7, x8, x15, x16, x17, x18, x35, x40, x41, x42, x73, x88, rfl, hq, rfl, rfl, hT⟩ hk
  have e66 : trimE ((D.drop a).take m') = (D.drop a).take m' → EP4 66 [.hsl i a m' c 1 true, .str [10]] H' = some (.val (.str V) H') := by
    intro h
    rw [hV, hT, h]
    exact ep66 g (by rw [← List.map_drop, ← List.map_take]) (by simp; omega) (by omega) (join_ok hD hL (fun l hl => List.mem_of_mem_drop (List.mem_of_mem_take hl)) (by simp; omega))
  cases m' with
  | zero =>
    have c1 : ¬ (0 : Int) < (((0 : Nat)) : Int) := by omega
    have e66 := e66 rfl
    simp -implicitDefEqProofs only [l38_4, r38_18, r38_20, opn_z, opn_s, sel_z, sel_s, qCd_eq, qIf_false, qBl_eq, qRes_val, qPick_false, qG_ft, qGtr_int, qLenL_hsl, c1, decide_false, e66, AV.kill]
  | succ p =>
    have c1 : (0 : Int) < ((p + 1 : Nat) : Int) := by omega
    have hw := wrap_dn p (by omega)
    have hlt : a + p < D.length := by omega
    have hs : (D.drop a)[p]? = some D[a + p] := by rw [List.getElem?_drop]; exact List.getElem?_eq_getElem hlt
    have ia : ∀ k : AV → Prop, qIa 1 (.hsl i a (p + 1) c 1 true) (.int .i64 (p : Int)) k = k (.ptr i (a + p)) := fun k => by
      have := qIa_hsl .i64 k 1 i a (p + 1) c true p (by omega)
      rw [Nat.mul_one] at this
      exact this
    have ld := fun k => ld1 (R := Prop) g (a + p) (.str D[a + p]) (by rw [List.getElem?_map, List.getElem?_eq_getElem hlt]; rfl) k
    have e65 := fun H => up4 (ep65 D[a + p] (by have := hD _ (List.getElem_mem hlt); omega) H)
    cases hb : blank D[a + p] with
    | true =>
      rw [hb] at e65
      have sl := fun k => slcH_hi i a (p + 1) c true p (by omega) k
      simp -implicitDefEqProofs only [l38_4, r38_18, r38_19, opn_z, opn_s, sel_z, sel_s, qCd_eq, qIf_true, qBl_eq, qRes_val, qPick_true, qG_tt, qCallV_fn, qGtr_int, qSub_int, qLenL_hsl, List.nil_append, List.append_nil, c1, decide_true, hw, ia, ld, e65, sl]
      refine hk p _ _ (by omega) ⟨p, _, _, _, _, _, _, _, _, _, _, _, _, _, _, _, _, rfl, by omega, rfl, rfl, ?_⟩
      rw [hT, take_succ' hs, trimE_snoc, if_pos hb]
    | false =>
      rw [hb] at e65
      have e66 := e66 (by rw [take_succ' hs, trimE_snoc, if_neg (by rw [hb]; simp)])
      simp -implicitDefEqProofs only [l38_4, r38_18, r38_20, opn_z, opn_s, sel_z, sel_s, qCd_eq, qIf_false, qBl_eq, qRes_val, qPick_true, qG_tt, qCallV_fn, qGtr_int, qSub_int, qLenL_hsl, List.nil_append, List.append_nil, c1, decide_true, hw, ia, ld, e65, e66, AV.kill]

theorem blk_trim {D : List Str} (hD : ∀ l ∈ D, l.length < 1000000) (hL : D.length < 1000000) {H1 : AH} [IsFn H1] {i : Nat} (g : H1.get i = some (.cells (D.map .str))) (V : Str)
    (hV : V = Lib.join (trimE (D.dropWhile blank)) [10]) (x0 x2 x4 x6 x7 x8 x9 x15 x16 x17 x18 x35 x40 x41 x42 x73 x88 : AV) :
    (r38_15 (qBl (fun k5 => (qLoop (l38_8 EP4 k5))) (qBl (fun k1 => (qLoop (l38_4 EP4 k1))) (r38_20 EP4 (fun fr (_ : AH) => (sel 1 fr).kill = .str V))))) [x0, x2, .hsl i 0 D.length D.length 1 true, x4, x6, x7, x8, x9, x15, x16, x17, x18, x35, x40, x41, x42, x73, x88] H1 := by
  simp -implicitDefEqProofs only [r38_15, opn_z, opn_s, qBl_eq]
  refine loop_inv (fun m fr H' => ∃ (a : Nat) (x0 x2 x4 x6 x7 x8 x15 x16 x17 x18 x35 x40 x41 x42 x73 x88 : AV), m = D.length - a ∧ a ≤ D.length ∧ fr = [x0, x2, .hsl i a (D.length - a) (D.length - a) 1 true, x4, x6, x7, x8, .fn (.func 65) [] [], x15, x16, x17, x18, x35, x40, x41, x42, x73, x88] ∧ H' = H1 ∧ D.dropWhile blank = (D.drop a).dropWhile blank) ?_ (m := D.length) ?_
  case refine_2 => exact ⟨0, _, _, _, _, _, _, _, _, _, _, _, _, _, _, _, _, rfl, by omega, rfl, rfl, rfl⟩
  rintro m fr H' k ⟨a, x0, x2, x4, x6, x7, x8, x15, x16, x17, x18, x35, x40, x41, x42, x73, x88, rfl, ha, rfl, rfl, hT⟩ hk
  obtain ⟨n, hn⟩ : ∃ n, n = D.length - a := ⟨_, rfl⟩
  rw [← hn]
  rcases Nat.lt_or_ge a D.length with h | h
  case inr =>
    have c1 : ¬ (0 : Int) < (n : Int) := by omega
    simp -implicitDefEqProofs only [l38_8, r38_16, opn_z, opn_s, sel_z, sel_s, qCd_eq, qIf_false, qBl_eq, qPick_false, qG_ft, qGtr_int, qLenL_hsl, c1, decide_false]
    refine blk_end hD hL g (by omega) (by omega) V ?_ _ _ _ _ _ _ _ _ _ _ _ _ _ _ _ _
    rw [hV, hT, List.drop_of_length_le h]
    simp
  have c1 : (0 : Int) < (n : Int) := by omega
  have ia : ∀ k : AV → Prop, qIa 1 (.hsl i a n n 1 true) (.int .i64 0) k = k (.ptr i a) := fun k => qIa_hsl .i64 k 1 i a n n true 0 (by omega)
  have ld := fun k => ld1 (R := Prop) g a (.str D[a]) (by rw [List.getElem?_map, List.getElem?_eq_getElem h]; rfl) k
  have e65 := fun H => up4 (ep65 D[a] (by have := hD _ (List.getElem_mem h); omega) H)
  cases hb : blank D[a] with
  | true =>
    rw [hb] at e65
    have sl : ∀ k : AV → Prop, qSlc Tryd.t22.desc 1 (.hsl i a n n 1 true) (some (.int .i64 1)) none none k = k (.hsl i (a + 1) (D.length - (a + 1)) (D.length - (a + 1)) 1 true) := fun k => by
      have := slcH_lo i a n n true 1 (by omega) k
      rw [show n - 1 = D.length - (a + 1) by omega] at this
      exact this
    simp -implicitDefEqProofs only [l38_8, r38_16, r38_17, opn_z, opn_s, sel_z, sel_s, qCd_eq, qIf_true, qBl_eq, qRes_val, qPick_true, qG_tt, qCallV_fn, qGtr_int, qLenL_hsl, List.nil_append, List.append_nil, c1, decide_true, ia, ld, e65, sl]
    refine hk (D.length - (a + 1)) _ _ (by omega) ⟨a + 1, _, _, _, _, _, _, _, _, _, _, _, _, _, _, _, _, rfl, h, rfl, rfl, ?_⟩
    rw [hT, List.drop_eq_getElem_cons h, List.dropWhile_cons, hb]; rfl
  | false =>
    rw [hb] at e65
    simp -implicitDefEqProofs only [l38_8, r38_16, opn_z, opn_s, sel_z, sel_s, qCd_eq, qIf_false, qBl_eq, qRes_val, qPick_true, qG_tt, qCallV_fn, qGtr_int, qLenL_hsl, List.nil_append, List.append_nil, c1, decide_true, ia, ld, e65]
    refine blk_end hD hL g (by omega) (by omega) V ?_ _ _ _ _ _ _ _ _ _ _ _ _ _ _ _ _
    rw [hV, hT, List.take_of_length_le (by simp; omega), List.drop_eq_getElem_cons h, List.dropWhile_cons, hb]; rfl

theorem cells_step {f : Str → Str} {l0 : Str} {r : List Str} {j : Nat} (h : j < r.length) :
    (l0 :: ((r.take j).map f ++ r.drop j))[j + 1]? = some r[j] ∧ (l0 :: ((r.take j).map f ++ r.drop j)).set (j + 1) (f r[j]) = l0 :: ((r.take (j + 1)).map f ++ r.drop (j + 1)) := by
  have hl : ((r.take j).map f).length = j := by simp; omega
  constructor
  · rw [List.getElem?_cons_succ, List.getElem?_append_right (by omega), hl, Nat.sub_self, List.getElem?_drop]
    exact List.getElem?_eq_getElem h
  · rw [List.set_cons_succ, List.set_append_right _ _ (by omega), hl, Nat.sub_self, List.drop_eq_getElem_cons h, List.set_cons_zero, take_succ' (List.getElem?_eq_getElem h)]
    simp only [List.map_append, List.map_cons, List.map_nil, List.append_assoc, List.singleton_append]
theorem cutL_le (c : Int) (l : Str) : (cutL c l).length ≤ l.length := by unfold cutL; simp

theorem blk_cut {l0 : Str} {r : List Str} (hD : ∀ l ∈ l0 :: r, l.length < 1000000) (hL : r.length + 1 < 1000000) {H1 : AH} [IsFn H1] {i : Nat} (g : H1.get i = some (.cells ((l0 :: r).map .str))) (C : Int) (V : Str)
    (hV : V = Lib.join (trimE ((l0 :: r.map (cutL C)).dropWhile blank)) [10]) (x0 x2 x6 x7 x8 x9 x15 x16 x17 x18 x35 x40 x41 x42 x73 x88 : AV) :
    (r38_10 (qBl (fun k9 => (qLoop (l38_12 EP4 k9))) (r38_15 (qBl (fun k5 => (qLoop (l38_8 EP4 k5))) (qBl (fun k1 => (qLoop (l38_4 EP4 k1))) (r38_20 EP4 (fun fr (_ : AH) => (sel 1 fr).kill = .str V))))))) [x0, x2, .hsl i 0 (r.length + 1) (r.length + 1) 1 true, .int .i64 C, x6, x7, x8, x9, x15, x16, x17, x18, x35, x40, x41, x42, x73, x88] H1 := by
  have sl : ∀ k : AV → Prop, qSlc Tryd.t22.desc 1 (.hsl i 0 (r.length + 1) (r.length + 1) 1 true) (some (.int .i64 1)) none none k = k (.hsl i 1 r.length r.length 1 true) := fun k => by
    have := slcH_lo i 0 (r.length + 1) (r.length + 1) true 1 (by omega) k
    simpa using this
  simp -implicitDefEqProofs only [r38_10, opn_z, opn_s, qBl_eq, qLenL_hsl, sl]
  refine loop_inv (fun m fr H' => ∃ (j : Nat) (x0 x2 x6 x7 x8 x9 x15 x16 x17 x18 x35 x42 x73 x88 : AV), m = r.length - j ∧ j ≤ r.length ∧ fr = [x0, x2, .hsl i 0 (r.length + 1) (r.length + 1) 1 true, .int .i64 C, x6, x7, x8, x9, x15, x16, x17, x18, x35, .int .i64 (r.length : Int), .int .i64 (j : Int), x42, x73, x88] ∧ IsFn H' ∧
    H'.get i = some (.cells ((l0 :: ((r.take j).map (cutL C) ++ r.drop j)).map .str))) ?_ (m := r.length) ?_
  case refine_2 => exact ⟨0, _, _, _, _, _, _, _, _, _, _, _, _, _, _, rfl, by omega, rfl, inferInstance, g⟩
  rintro m fr H' k ⟨j, x0, x2, x6, x7, x8, x9, x15, x16, x17, x18, x35, x42, x73, x88, rfl, hj, rfl, hf, g'⟩ hk
  rcases Nat.lt_or_ge j r.length with h | h
  case inr =>
    have c1 : ¬ (j : Int) < (r.length : Int) := by omega
    rw [List.take_of_length_le h, List.drop_of_length_le h, List.append_nil] at g'
    simp -implicitDefEqProofs only [l38_12, r38_11, qCd_eq, qIf_false, opn_s, opn_z, sel_s, sel_z, qLss_int, c1, decide_false]
    have hn : r.length + 1 = (l0 :: r.map (cutL C)).length := by simp
    rw [hn]
    refine blk_trim (D := l0 :: r.map (cutL C)) ?_ (by rw [← hn]; exact hL) g' V hV _ _ _ _ _ _ _ _ _ _ _ _ _ _ _ _ _
    intro l hl
    rcases List.mem_cons.1 hl with rfl | hl
    · exact hD _ (by simp)
    · obtain ⟨y, hy, rfl⟩ := List.mem_map.1 hl
      have := hD y (by simp [hy])
      have := cutL_le C y
      omega
  have c1 : (j : Int) < (r.length : Int) := by omega
  obtain ⟨s1, s2⟩ := cells_step (f := cutL C) (l0 := l0) h
  have hw1 : IntKind.i64.wrap (1 + (j : Int)) = ((j + 1 : Nat) : Int) := by rw [i64_in' (by omega)]; omega
  have ia : ∀ k : AV → Prop, qIa 1 (.hsl i 0 (r.length + 1) (r.length + 1) 1 true) (.int .i64 ((j + 1 : Nat) : Int)) k = k (.ptr i (j + 1)) := fun k => by
    have := qIa_hsl .i64 k 1 i 0 (r.length + 1) (r.length + 1) true (j + 1) (by omega)
    rw [Nat.mul_one, Nat.zero_add] at this
    exact this
  have ld := fun k => ld1 (R := Prop) g' (j + 1) (.str r[j]) (by rw [List.getElem?_map, s1]; rfl) k
  have hrj := hD r[j] (List.mem_cons_of_mem _ (List.getElem_mem h))
  have e64 := fun H => up4 (ep64 r[j] (by omega) H)
  have hile := ind_le r[j]
  have hm : min (max C 0) ((ind r[j] : Nat) : Int) = ((min C.toNat (ind r[j]) : Nat) : Int) := by omega
  have sc := fun k => slcS_lo r[j] (min C.toNat (ind r[j])) (by omega) k
  have st := fun k => qSt_1 (R := Prop) (o := j + 1) (v := .str (cutL C r[j])) g' (by
    have := (List.getElem?_eq_some_iff.1 s1).1
    simpa using this) rfl k
  rw [← List.map_set, s2] at st
  unfold cutL at st
  have hw := wrap_up j (by omega)
  simp -implicitDefEqProofs only [l38_12, r38_11, r38_12, r38_13, r38_14, opn_z, opn_s, sel_z, sel_s, qCd_eq, qIf_true, qBl_eq, qO_some, qRes_val, qLss_int, qAdd_int, foldO, min2_int, max2_int, qSame_refl, c1, decide_true, hw1, ia, ld, e64, hm, sc, st, hw]
  refine hk (r.length - (j + 1)) _ _ (by omega) ⟨j + 1, _, _, _, _, _, _, _, _, _, _, _, _, _, _, rfl, h, rfl, inferInstance, ?_⟩
  rw [get_set_i (lt_i g'), if_pos rfl]
  rfl

def lines38 (s : Str) : List Str := Lib.split (Lib.replaceAll (Lib.replaceAll s [13, 10] [10]) [13] [10]) [10]

set_option maxHeartbeats 1000000 in
theorem ep38 (s : Str) {l0 : Str} {r : List Str} (hlines : lines38 s = l0 :: r) (hs : s.length < 1000000) (h1 : (Lib.replaceAll s [13, 10] [10]).length < 1000000) (h2 : (Lib.replaceAll (Lib.replaceAll s [13, 10] [10]) [13] [10]).length < 1000000)
    (hD : ∀ l ∈ l0 :: r, l.length < 1000000) (hL : r.length + 1 < 1000000) (H : AH) : EP4 38 [.str s] H = some (.val (.str (blkF (l0 :: r))) H) := by
  refine uo_form (X := X) (D := OD2) (O := OF4) (S := PS) (al := [.str s]) e38 xf38 rfl rfl rfl rfl ?_ H
  simp only [AV.kills, AV.kill]
  have hcl : ∀ t old : Str, t.length < 1000000 → t.length + Lib.count t old * ([10] : Str).length ≤ 140737488355328 := fun t old ht => by
    have := Lib.count_le t old
    simp only [List.length_cons, List.length_nil]
    omega
  have ea := fun H => ep63 s [13, 10] [10] (by omega) (by decide) (hcl s _ hs) H
  have eb := fun H => ep63 (Lib.replaceAll s [13, 10] [10]) [13] [10] (by omega) (by decide) (hcl _ _ h1) H
  have ec := ep62 (H := H0) (Lib.replaceAll (Lib.replaceAll s [13, 10] [10]) [13] [10]) [10] (by omega) (by decide)
  have hl' : Lib.split (Lib.replaceAll (Lib.replaceAll s [13, 10] [10]) [13] [10]) [10] = l0 :: r := hlines
  rw [hl'] at ec
  have g := get_push_at (H := H0) (.cells ((l0 :: r).map AV.str))
  have hif : IsFn (H0.push (.cells ((l0 :: r).map AV.str))) := inferInstance
  have hn : (l0 :: r).length = r.length + 1 := rfl
  rw [hn] at ec
  generalize H0.push (.cells ((l0 :: r).map AV.str)) = H1 at *
  generalize H0.nx = i at *
  have sl : ∀ k : AV → Prop, qSlc Tryd.t22.desc 1 (.hsl i 0 (r.length + 1) (r.length + 1) 1 true) (some (.int .i64 1)) none none k = k (.hsl i 1 r.length r.length 1 true) := fun k => by
    have := slcH_lo i 0 (r.length + 1) (r.length + 1) true 1 (by omega) k
    simpa using this
  simp -implicitDefEqProofs only [c38, r38_0, r38_1, r38_2, r38_3, opn_z, opn_s, qFn_eq, qBl_eq, qRes_val, qLenL_hsl, ea, eb, ec, sl]
  refine loop_inv (fun m fr H' => ∃ (j : Nat) (cc : Int) (x0 x2 x6 x7 x8 x9 x18 x35 x40 x41 x42 x73 x88 : AV), m = r.length - j ∧ j ≤ r.length ∧ fr = [x0, x2, .hsl i 0 (r.length + 1) (r.length + 1) 1 true, .int .i64 cc, x6, x7, x8, x9, .hsl i 1 r.length r.length 1 true, .int .i64 (r.length : Int), .int .i64 (j : Int), x18, x35, x40, x41, x42, x73, x88] ∧ H' = H1 ∧
    cmn (-1) r = cmn cc (r.drop j)) ?_ (m := r.length) ?_
  case refine_2 => exact ⟨0, -1, _, _, _, _, _, _, _, _, _, _, _, _, _, rfl, by omega, rfl, rfl, rfl⟩
  rintro m fr H' k ⟨j, cc, x0, x2, x6, x7, x8, x9, x18, x35, x40, x41, x42, x73, x88, rfl, hj, rfl, rfl, hT⟩ hk
  rcases Nat.lt_or_ge j r.length with h | h
  case inr =>
    have c1 : ¬ (j : Int) < (r.length : Int) := by omega
    rw [List.drop_of_length_le h] at hT
    simp -implicitDefEqProofs only [l38_17, r38_4, qCd_eq, qIf_false, opn_s, opn_z, sel_s, sel_z, qLss_int, c1, decide_false]
    refine blk_cut hD hL g cc _ ?_ _ _ _ _ _ _ _ _ _ _ _ _ _ _ _ _
    show Lib.join (trimE ((l0 :: r.map (cutL (cmn (-1) r))).dropWhile blank)) [10] = _
    rw [hT]
    rfl
  have c1 : (j : Int) < (r.length : Int) := by omega
  have ia : ∀ k : AV → Prop, qIa 1 (.hsl i 1 r.length r.length 1 true) (.int .i64 (j : Int)) k = k (.ptr i (1 + j)) := fun k => by
    have := qIa_hsl .i64 k 1 i 1 r.length r.length true j h
    rw [Nat.mul_one] at this
    exact this
  have ld := fun k => ld1 (R := Prop) g (1 + j) (.str r[j]) (by
    rw [List.getElem?_map, show 1 + j = j + 1 by omega, List.getElem?_cons_succ, List.getElem?_eq_getElem h]; rfl) k
  have hrj := hD r[j] (List.mem_cons_of_mem _ (List.getElem_mem h))
  have e64 := fun H => up4 (ep64 r[j] (by omega) H)
  have hw := wrap_up j (by omega)
  rw [cmn_at h] at hT
  by_cases d1 : ((ind r[j] : Nat) : Int) < (r[j].length : Int)
  case neg =>
    rw [if_neg (fun hh => d1 (by omega))] at hT
    simp -implicitDefEqProofs only [l38_17, r38_4, r38_5, r38_6, r38_7, r38_9, opn_z, opn_s, sel_z, sel_s, qCd_eq, qIf_true, qIf_false, qBl_eq, qRes_val, qPick_false, qG_ft, qLss_int, qAdd_int, qLenS_str, qG_un, c1, decide_true, ia, ld, e64, d1, decide_false, hw]
    exact hk (r.length - (j + 1)) _ _ (by omega) ⟨j + 1, cc, _, _, _, _, _, _, _, _, _, _, _, _, _, rfl, h, rfl, rfl, hT⟩
  by_cases d2 : cc < 0
  · rw [if_pos ⟨by omega, .inl d2⟩] at hT
    simp -implicitDefEqProofs only [l38_17, r38_4, r38_5, r38_6, r38_7, r38_8, r38_9, opn_z, opn_s, sel_z, sel_s, qCd_eq, qIf_true, qBl_eq, qRes_val, qPick_true, qG_tt, qG_tf, qLss_int, qAdd_int, qLenS_str, c1, decide_true, ia, ld, e64, d1, d2, hw]
    exact hk (r.length - (j + 1)) _ _ (by omega) ⟨j + 1, _, _, _, _, _, _, _, _, _, _, _, _, _, _, rfl, h, rfl, rfl, hT⟩
  by_cases d3 : ((ind r[j] : Nat) : Int) < cc
  · rw [if_pos ⟨by omega, .inr d3⟩] at hT
    simp -implicitDefEqProofs only [l38_17, r38_4, r38_5, r38_6, r38_7, r38_8, r38_9, opn_z, opn_s, sel_z, sel_s, qCd_eq, qIf_true, qBl_eq, qRes_val, qPick_true, qPick_false, qG_tt, qG_ff, qLss_int, qAdd_int, qLenS_str, c1, decide_true, decide_false, ia, ld, e64, d1, d2, d3, hw]
    exact hk (r.length - (j + 1)) _ _ (by omega) ⟨j + 1, _, _, _, _, _, _, _, _, _, _, _, _, _, _, rfl, h, rfl, rfl, hT⟩
  · rw [if_neg (fun hh => hh.2.elim d2 d3)] at hT
    simp -implicitDefEqProofs only [l38_17, r38_4, r38_5, r38_6, r38_7, r38_9, opn_z, opn_s, sel_z, sel_s, qCd_eq, qIf_true, qIf_false, qBl_eq, qRes_val, qPick_true, qPick_false, qG_tt, qG_ff, qLss_int, qAdd_int, qLenS_str, c1, decide_true, decide_false, ia, ld, e64, d1, d2, d3, hw]
    exact hk (r.length - (j + 1)) _ _ (by omega) ⟨j + 1, cc, _, _, _, _, _, _, _, _, _, _, _, _, _, rfl, h, rfl, rfl, hT⟩
end T
