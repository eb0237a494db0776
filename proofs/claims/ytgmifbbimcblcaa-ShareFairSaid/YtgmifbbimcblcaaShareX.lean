import Derived.Test.YtgmifbbimcblcaaBuckX
set_option linter.all false
set_option linter.unusedVariables false
set_option linter.unusedSimpArgs false
set_option maxRecDepth 10000
namespace T
open Go Go.Aes Go.Proofs

/-! ### a share's cells -/
def ints (l : List Int) : List AV := l.map (AV.int .i64)
theorem ints_len (l : List Int) : (ints l).length = l.length := by simp [ints]
theorem ints_get (l : List Int) (i : Nat) (x : Int) (h : l[i]? = some x) : (ints l)[i]? = some (.int .i64 x) := by simp [ints, h]
theorem ints_set (l : List Int) (i : Nat) (x : Int) : (ints l).set i (.int .i64 x) = ints (l.set i x) := by simp [ints]

structure Sh where
  q : Int
  n : Nat
  W : List Int
  Cr : List Int
  Sv : List Int
  pos : Nat
  vis : Bool

structure Sh.Ok (s : Sh) : Prop where
  w : s.W.length = 8
  c : s.Cr.length = 8
  v : s.Sv.length = 8
  n8 : s.n ≤ 8
  a : s.n = 0 ∨ s.pos < s.n
  q1 : 1 ≤ s.q
  q2 : s.q ≤ 1000
  w1 : ∀ (i : Nat) (x : Int), s.W[i]? = some x → 0 ≤ x ∧ x ≤ 20
  w2 : ∀ (i : Nat) (x : Int), i < s.n → s.W[i]? = some x → 1 ≤ x

def Sh.cells (s : Sh) : List AV := .int .i64 s.q :: .int .i64 (s.n : Int) :: (ints s.W ++ (ints s.Cr ++ (ints s.Sv ++ [.int .i64 (s.pos : Int), .bool s.vis])))

theorem Sh.len {s : Sh} (h : s.Ok) : s.cells.length = 28 := by simp [Sh.cells, ints_len, h.w, h.c, h.v]

theorem cat_get1 {a b : List AV} {n i : Nat} (hl : a.length = n) (hi : i < n) : (a ++ b)[i]? = a[i]? := by rw [List.getElem?_append_left (by omega)]
theorem cat_get2 {a b : List AV} {n i : Nat} (hl : a.length = n) : (a ++ b)[n + i]? = b[i]? := by rw [List.getElem?_append_right (by omega)]; congr 1; omega
theorem cat_set1 {a b : List AV} {n i : Nat} {v : AV} (hl : a.length = n) (hi : i < n) : (a ++ b).set i v = a.set i v ++ b := by rw [List.set_append_left _ _ (by omega)]
theorem cat_set2 {a b : List AV} {n i : Nat} {v : AV} (hl : a.length = n) : (a ++ b).set (n + i) v = a ++ b.set i v := by rw [List.set_append_right _ _ (by omega)]; congr 2; omega

section
variable {s : Sh} (h : s.Ok)
include h
theorem Sh.get_w {i : Nat} {x : Int} (hi : i < 8) (e : s.W[i]? = some x) : s.cells[2 + i]? = some (.int .i64 x) := by
  rw [show 2 + i = i + 1 + 1 by omega]
  unfold Sh.cells
  rw [List.getElem?_cons_succ, List.getElem?_cons_succ, cat_get1 (by rw [ints_len, h.w]) hi, ints_get _ _ _ e]
theorem Sh.get_c {i : Nat} {x : Int} (hi : i < 8) (e : s.Cr[i]? = some x) : s.cells[10 + i]? = some (.int .i64 x) := by
  rw [show 10 + i = (8 + i) + 1 + 1 by omega]
  unfold Sh.cells
  rw [List.getElem?_cons_succ, List.getElem?_cons_succ, cat_get2 (by rw [ints_len, h.w]), cat_get1 (by rw [ints_len, h.c]) hi, ints_get _ _ _ e]
theorem Sh.get_v {i : Nat} {x : Int} (hi : i < 8) (e : s.Sv[i]? = some x) : s.cells[18 + i]? = some (.int .i64 x) := by
  rw [show 18 + i = (8 + (8 + i)) + 1 + 1 by omega]
  unfold Sh.cells
  rw [List.getElem?_cons_succ, List.getElem?_cons_succ, cat_get2 (by rw [ints_len, h.w]), cat_get2 (by rw [ints_len, h.c]), cat_get1 (by rw [ints_len, h.v]) hi, ints_get _ _ _ e]
theorem Sh.get_t (j : Nat) : s.cells[26 + j]? = [AV.int .i64 (s.pos : Int), AV.bool s.vis][j]? := by
  rw [show 26 + j = (8 + (8 + (8 + j))) + 1 + 1 by omega]
  unfold Sh.cells
  rw [List.getElem?_cons_succ, List.getElem?_cons_succ, cat_get2 (by rw [ints_len, h.w]), cat_get2 (by rw [ints_len, h.c]), cat_get2 (by rw [ints_len, h.v])]
theorem Sh.get_pos : s.cells[26]? = some (.int .i64 (s.pos : Int)) := Sh.get_t h 0
theorem Sh.get_vis : s.cells[27]? = some (.bool s.vis) := Sh.get_t h 1
theorem Sh.set_t (j : Nat) (v : AV) : s.cells.set (26 + j) v = .int .i64 s.q :: .int .i64 (s.n : Int) :: (ints s.W ++ (ints s.Cr ++ (ints s.Sv ++ [.int .i64 (s.pos : Int), .bool s.vis].set j v))) := by
  rw [show 26 + j = (8 + (8 + (8 + j))) + 1 + 1 by omega]
  unfold Sh.cells
  rw [List.set_cons_succ, List.set_cons_succ, cat_set2 (by rw [ints_len, h.w]), cat_set2 (by rw [ints_len, h.c]), cat_set2 (by rw [ints_len, h.v])]
theorem Sh.set_w {i : Nat} (x : Int) (hi : i < 8) : s.cells.set (2 + i) (.int .i64 x) = { s with W := s.W.set i x }.cells := by
  rw [show 2 + i = i + 1 + 1 by omega]
  unfold Sh.cells
  rw [List.set_cons_succ, List.set_cons_succ, cat_set1 (by rw [ints_len, h.w]) hi, ints_set]
theorem Sh.set_c {i : Nat} (x : Int) (hi : i < 8) : s.cells.set (10 + i) (.int .i64 x) = { s with Cr := s.Cr.set i x }.cells := by
  rw [show 10 + i = (8 + i) + 1 + 1 by omega]
  unfold Sh.cells
  rw [List.set_cons_succ, List.set_cons_succ, cat_set2 (by rw [ints_len, h.w]), cat_set1 (by rw [ints_len, h.c]) hi, ints_set]
theorem Sh.set_v {i : Nat} (x : Int) (hi : i < 8) : s.cells.set (18 + i) (.int .i64 x) = { s with Sv := s.Sv.set i x }.cells := by
  rw [show 18 + i = (8 + (8 + i)) + 1 + 1 by omega]
  unfold Sh.cells
  rw [List.set_cons_succ, List.set_cons_succ, cat_set2 (by rw [ints_len, h.w]), cat_set2 (by rw [ints_len, h.c]), cat_set1 (by rw [ints_len, h.v]) hi, ints_set]
theorem Sh.set_pos (x : Nat) : s.cells.set 26 (.int .i64 (x : Int)) = { s with pos := x }.cells := Sh.set_t h 0 _
theorem Sh.set_vis (x : Bool) : s.cells.set 27 (.bool x) = { s with vis := x }.cells := Sh.set_t h 1 _
end

theorem Sh.get_q (s : Sh) : s.cells[0]? = some (.int .i64 s.q) := rfl
theorem Sh.get_n (s : Sh) : s.cells[1]? = some (.int .i64 (s.n : Int)) := rfl

/-- an index of an array -/
theorem qIaA1 (i o : Nat) (j : Nat) (h : j < 8) (k : AV → Prop) : qIaA 8 1 (.ptr i o) (.int .i64 (j : Int)) k = k (.ptr i (o + j)) := by
  rw [qIaA_ptr (R := Prop) .i64 k 8 1 i o j h]
  simp

theorem ld {H : AH} {i : Nat} {cs : List AV} (hg : H.get i = some (.cells cs)) (o : Nat) (v : AV) (h : cs[o]? = some v) (k : AV → Prop) : qLd (.ptr i o) H k = k v := by
  rw [qLd_ptr, hg, cellsK_some, h, qO_some]

section
variable {O : CallF} (hO : OutO O)
include hO

theorem ev_scut (a m : Int) (H : AH) : evl X O 46 [.int .i64 a, .int .i64 m] H = some (.val (.int .i64 (max 1 (min a m))) H) := by
  refine of_form_eq e46 xf46 (hO _ _ _ (by decide) (by decide)) ?_
  simp only [c46, r46_0, r46_1, opn_z, opn_s, sel_z, sel_s, qCd_eq, qIf_true, qIf_false, qFn_eq, qBl_eq, qO_some, qRes_val, qHp_some, qPick_true, qPick_false, qG_tt, qG_ff, qG_tf, qG_ft, cellsK_some, qLd_ptr, qLd_vptr, qLdA_ptr, qLdA_vptr, qFa_ptr, qFa_vptr, qNc_ptr, qNc_vptr, qNc_fn, qNot_bool, qExt_tup, qCallV_fn, qLss_int, qLeq_int, qGtr_int, qGeq_int, qEql_int, qNeq_int, qAdd_int, qSub_int, qMul_int, qConvI_int, qLenL_sl, qLenL_hsl, qLenS_str, foldO, min2_int, max2_int, qSame_refl, Nat.zero_add, List.getElem?_cons_zero, List.getElem?_cons_succ, List.nil_append, List.cons_append, List.append_nil, one_bool, one_int, one_str, one_nilp, one_ptr, one_sl, one_hsl, one_map, one_fn, List.length_cons, List.length_nil, List.set_cons_zero, List.set_cons_succ, Nat.reduceLT, Nat.reduceAdd]
  exact ⟨trivial, trivial⟩

/-- it stands at the next one -/
theorem ev_on {H : AH} (hf : Aes.Fn H) {p : Nat} {s : Sh} (ok : s.Ok) (hn : s.pos < s.n) (h : H.get p = some (.cells s.cells)) :
    ∃ H', evl X O 47 [.ptr p 0] H = some (.val (.tup []) H') ∧ Upd H H' p (.cells { s with pos := (s.pos + 1) % s.n, vis := false }.cells) := by
  have n8 := ok.n8
  have u1 := Upd.set hf h (.cells { s with pos := (s.pos + 1) % s.n }.cells)
  have s1 := qSt_one (R := Prop) hf h 26 (.int .i64 (((s.pos + 1) % s.n : Nat) : Int))
  rw [Sh.set_pos ok] at s1
  generalize H.set p (some (.cells { s with pos := (s.pos + 1) % s.n }.cells)) = H1 at u1 s1
  have ok1 : { s with pos := (s.pos + 1) % s.n }.Ok := ⟨ok.w, ok.c, ok.v, ok.n8, .inr (Nat.mod_lt _ (by omega)), ok.q1, ok.q2, ok.w1, ok.w2⟩
  have s2 := qSt_one (R := Prop) u1.fn u1.at_ 27 (.bool false)
  rw [Sh.set_vis ok1] at s2
  have u2 := Upd.set u1.fn u1.at_ (.cells { s with pos := (s.pos + 1) % s.n, vis := false }.cells)
  refine ⟨_, of_form_eq e47 xf47 (hO _ _ _ (by decide) (by decide)) ?_, u1.trans u2⟩
  have hm : ((s.pos : Int) + 1).tmod (s.n : Int) = (((s.pos + 1) % s.n : Nat) : Int) := by
    rw [Int.tmod_eq_emod_of_nonneg (by omega)]
    simp
  have hrem := fun k => qRem_int (R := Prop) X 3 .i64 ((s.pos : Int) + 1) (s.n : Int) k (by omega)
  simp only [c47, r47_0, r47_1, opn_z, opn_s, sel_z, sel_s, qCd_eq, qIf_true, qIf_false, qFn_eq, qBl_eq, qO_some, qRes_val, qHp_some, qPick_true, qPick_false, qG_tt, qG_ff, qG_tf, qG_ft, cellsK_some, qLd_ptr, qLd_vptr, qLdA_ptr, qLdA_vptr, qFa_ptr, qFa_vptr, qNc_ptr, qNc_vptr, qNc_fn, qNot_bool, qExt_tup, qCallV_fn, qLss_int, qLeq_int, qGtr_int, qGeq_int, qEql_int, qNeq_int, qAdd_int, qSub_int, qMul_int, qConvI_int, qLenL_sl, qLenL_hsl, qLenS_str, foldO, min2_int, max2_int, qSame_refl, Nat.zero_add, List.getElem?_cons_zero, List.getElem?_cons_succ, List.nil_append, List.cons_append, List.append_nil, one_bool, one_int, one_str, one_nilp, one_ptr, one_sl, one_hsl, one_map, one_fn, List.length_cons, List.length_nil, List.set_cons_zero, List.set_cons_succ, Nat.reduceLT, Nat.reduceAdd, ld h _ _ (Sh.get_pos ok), ld h _ _ (Sh.get_n s), i64_in (x := (s.pos : Int) + 1) (by omega), hrem, hm, s1, s2, Sh.len ok, Sh.len ok1]
  exact ⟨trivial, trivial⟩

end
end T
set_option linter.unusedVariables false
set_option linter.unusedSimpArgs false
set_option maxRecDepth 10000
namespace T
open Go Go.Aes Go.Proofs

/-! ### eight places -/
def pad8 (l : List Int) : List Int := l ++ List.replicate (8 - l.length) 0
theorem pad8_len (l : List Int) (h : l.length ≤ 8) : (pad8 l).length = 8 := by simp [pad8]; omega
theorem pad8_set (l : List Int) (x : Int) (h : l.length < 8) : (pad8 l).set l.length x = pad8 (l ++ [x]) := by
  unfold pad8
  rw [List.set_append_right _ _ (Nat.le_refl _)]
  have : 8 - l.length = (8 - (l ++ [x]).length) + 1 := by simp; omega
  rw [this, List.replicate_succ]
  simp
theorem pad8_get (l : List Int) (i : Nat) (x : Int) (h : l[i]? = some x) : (pad8 l)[i]? = some x := by
  have := (List.getElem?_eq_some_iff.1 h).1
  unfold pad8
  rw [List.getElem?_append_left this, h]
theorem pad8_getD (l : List Int) (i : Nat) : (pad8 l).getD i 0 = l.getD i 0 := by
  unfold pad8
  rw [List.getD_eq_getElem?_getD, List.getD_eq_getElem?_getD, List.getElem?_append]
  split
  · rfl
  · rename_i h
    rw [List.getElem?_replicate, List.getElem?_eq_none (by omega)]
    split <;> rfl

def cutW (x : Int) : Int := max 1 (min x 20)
def newSh (quantum : Int) (ws : List Int) (k : Nat) : Sh := ⟨max 1 (min quantum 1000), min ws.length 8, pad8 ((ws.take k).map cutW), pad8 [], pad8 [], 0, false⟩

theorem newSh_ok (quantum : Int) (ws : List Int) (k : Nat) (hk : k ≤ 8) (hk2 : min ws.length 8 ≤ k ∨ True) : (newSh quantum ws k).W.length = 8 ∧ (newSh quantum ws k).Cr.length = 8 ∧ (newSh quantum ws k).Sv.length = 8 := by
  refine ⟨pad8_len _ (by simp; omega), pad8_len _ (by simp), pad8_len _ (by simp)⟩

theorem getD_some {l : List Int} {i : Nat} (h : i < l.length) : l[i]? = some (l.getD i 0) := by
  rw [List.getD_eq_getElem?_getD, List.getElem?_eq_getElem h]; rfl

theorem newSh_full (quantum : Int) (ws : List Int) (k : Nat) (hk : k ≤ 8) (h2 : min ws.length 8 ≤ k) : (newSh quantum ws k).Ok := by
  obtain ⟨a, b, c⟩ := newSh_ok quantum ws k hk (.inr trivial)
  have hw : ∀ (i : Nat) (x : Int), (newSh quantum ws k).W[i]? = some x → (i < min ws.length 8 → 1 ≤ x) ∧ 0 ≤ x ∧ x ≤ 20 := by
    intro i x hx
    have hi : i < 8 := by have := (List.getElem?_eq_some_iff.1 hx).1; omega
    have hx2 : x = ((ws.take k).map cutW).getD i 0 := by
      have := pad8_getD ((ws.take k).map cutW) i
      rw [List.getD_eq_getElem?_getD] at this
      have h3 : (pad8 ((ws.take k).map cutW))[i]? = some x := hx
      rw [h3] at this
      exact this
    by_cases hi2 : i < ((ws.take k).map cutW).length
    · have := getD_some hi2
      rw [← hx2] at this
      simp only [List.getElem?_map, Option.map_eq_some_iff] at this
      obtain ⟨y, _, rfl⟩ := this
      unfold cutW
      omega
    · have : x = 0 := by rw [hx2, List.getD_eq_getElem?_getD, List.getElem?_eq_none (by omega)]; rfl
      simp at hi2
      omega
  refine ⟨a, b, c, by show min ws.length 8 ≤ 8; omega, ?_, by show 1 ≤ max 1 _; omega, by show max 1 (min quantum 1000) ≤ 1000; omega, fun i x h => (hw i x h).2, fun i x hi h => (hw i x h).1 hi⟩
  show min ws.length 8 = 0 ∨ 0 < min ws.length 8
  omega

/-! ### slices that are read -/
def Ints (H : AH) (v : AV) (zs : List Int) : Prop := (∃ tk, v = .sl (intRows .i64 zs) tk) ∨ (∃ i g, v = .hsl i 0 zs.length zs.length 1 g ∧ H.get i = some (.cells (ints zs)))

theorem Ints.keep {H H' : AH} {v : AV} {zs : List Int} (h : Ints H v zs) (hk : ∀ i o, H.get i = some o → (∃ g, v = .hsl i 0 zs.length zs.length 1 g) → H'.get i = some o) : Ints H' v zs := by
  rcases h with h | ⟨i, g, rfl, h⟩
  · exact .inl h
  · exact .inr ⟨i, g, rfl, hk i _ h ⟨g, rfl⟩⟩

theorem Ints.len {H : AH} {v : AV} {zs : List Int} (h : Ints H v zs) (k : AV → Prop) : qLenL v k = k (.int .i64 (zs.length : Int)) := by
  rcases h with ⟨tk, rfl⟩ | ⟨i, g, rfl, h⟩
  · rw [qLenL_sl, intRows_len]
  · rw [qLenL_hsl]

theorem Ints.at_ {H : AH} {v : AV} {zs : List Int} (h : Ints H v zs) {j : Nat} {z : Int} (hz : zs[j]? = some z) : ∃ a, (∀ k : AV → Prop, qIa 1 v (.int .i64 (j : Int)) k = k a) ∧ (∀ k : AV → Prop, qLd a H k = k (.int .i64 z)) := by
  rcases h with ⟨tk, rfl⟩ | ⟨i, g, rfl, h⟩
  · exact ⟨_, fun k => qIa_ints hz k, fun k => rfl⟩
  · have hj := (List.getElem?_eq_some_iff.1 hz).1
    refine ⟨.ptr i j, fun k => ?_, fun k => ?_⟩
    · rw [qIa_hsl (R := Prop) .i64 k 1 i 0 zs.length zs.length g j hj]
      simp
    · exact ld h j _ (ints_get _ _ _ hz) k

section
variable {O : CallF} (hO : OutO O)
include hO

theorem ev_snew {H : AH} (hf : Aes.Fn H) (quantum : Int) {v : AV} {ws : List Int} (hv : Ints H v ws) (hl : ws.length ≤ Go.maxLen) :
    ∃ H', evl X O 25 [.int .i64 quantum, v] H = some (.val (.ptr H.nx 0) H') ∧ New H H' (.cells (newSh quantum ws (min ws.length 8)).cells) := by
  unfold Go.maxLen at hl
  have n1 := New.push hf (.cells (newSh quantum ws 0).cells)
  have hb : fillP z92 [(0, 1, .int .i64 (max 1 (min quantum 1000))), (1, 1, .int .i64 (min (ws.length : Int) 8))] = some (newSh quantum ws 0).cells := by
    have : (min (ws.length : Int) 8) = ((min ws.length 8 : Nat) : Int) := by omega
    rw [this]
    rfl
  have hbx : ∀ k : AV → AH → Prop, qBox (.agg (newSh quantum ws 0).cells) H k = k (.ptr H.nx 0) (H.push (.cells (newSh quantum ws 0).cells)) := fun k => by rw [qBox_fn hf _ rfl, AV.cells]
  generalize H.push (.cells (newSh quantum ws 0).cells) = H1 at *
  suffices h : c25 (evl X O) [.int .i64 quantum, v] H (fun r H' => r = .ptr H.nx 0 ∧ New H H' (.cells (newSh quantum ws (min ws.length 8)).cells)) by
    obtain ⟨r, H', h1, rfl, h2⟩ := of_form e25 xf25 (hO _ _ _ (by decide) (by decide)) h
    exact ⟨H', h1, h2⟩
  have hld := ld n1.at_ 1 _ (Sh.get_n (newSh quantum ws 0))
  have e8 : (newSh quantum ws 0).n = min ws.length 8 := rfl
  rw [e8] at hld
  simp only [c25, r25_0, r25_1, r25_2, opn_z, opn_s, sel_z, sel_s, qCd_eq, qIf_true, qIf_false, qFn_eq, qBl_eq, qO_some, qRes_val, qHp_some, qPick_true, qPick_false, qG_tt, qG_ff, qG_tf, qG_ft, cellsK_some, qLd_ptr, qLd_vptr, qLdA_ptr, qLdA_vptr, qFa_ptr, qFa_vptr, qNc_ptr, qNc_vptr, qNc_fn, qNot_bool, qExt_tup, qCallV_fn, qLss_int, qLeq_int, qGtr_int, qGeq_int, qEql_int, qNeq_int, qAdd_int, qSub_int, qMul_int, qConvI_int, qLenL_sl, qLenL_hsl, qLenS_str, foldO, min2_int, max2_int, qSame_refl, Nat.zero_add, List.getElem?_cons_zero, List.getElem?_cons_succ, List.nil_append, List.cons_append, List.append_nil, one_bool, one_int, one_str, one_nilp, one_ptr, one_sl, one_hsl, one_map, one_fn, List.length_cons, List.length_nil, List.set_cons_zero, List.set_cons_succ, Nat.reduceLT, Nat.reduceAdd, ev_scut hO, hv.len, qBld, hb, hbx, hld]
  refine loop_inv (fun m fr H' => ∃ (i : Nat) (x4 x6 x19 : AV), m = 8 - i ∧ i ≤ min ws.length 8 ∧ fr = [.int .i64 quantum, v, x4, .ptr H.nx 0, x6, .int .i64 ((min ws.length 8 : Nat) : Int), .int .i64 (i : Int), x19] ∧ New H H' (.cells (newSh quantum ws i).cells)) ?_ (m := 8) ?_
  · rintro m fr H' k ⟨i, x4, x6, x19, rfl, hi, rfl, hn⟩ hk
    by_cases h1 : i < min ws.length 8
    · have h1' : (i : Int) < ((min ws.length 8 : Nat) : Int) := by omega
      have hz : ws[i]? = some ws[i] := List.getElem?_eq_getElem (by omega)
      have hv' : Ints H' v ws := hv.keep (fun j o hj _ => (hn.other j (hf.lt hj)).trans hj)
      obtain ⟨a, a1, a2⟩ := hv'.at_ hz
      have hok : (newSh quantum ws i).Ok ∨ True := .inr trivial
      have ha := qIaA1 H.nx 2 i (by omega)
      have hs := qSt_one (R := Prop) hn.fn hn.at_ (2 + i) (.int .i64 (cutW ws[i]))
      have hlen : (newSh quantum ws i).cells.length = 28 := by
        obtain ⟨l1, l2, l3⟩ := newSh_ok quantum ws i (by omega) (.inr trivial)
        simp [Sh.cells, ints_len, l1, l2, l3]
      have hset : (newSh quantum ws i).cells.set (2 + i) (.int .i64 (cutW ws[i])) = (newSh quantum ws (i + 1)).cells := by
        obtain ⟨l1, l2, l3⟩ := newSh_ok quantum ws i (by omega) (.inr trivial)
        rw [show 2 + i = i + 1 + 1 by omega]
        unfold Sh.cells
        rw [List.set_cons_succ, List.set_cons_succ, cat_set1 (n := 8) (by rw [ints_len, l1]) (by omega), ints_set]
        have : (newSh quantum ws i).W.set i (cutW ws[i]) = (newSh quantum ws (i + 1)).W := by
          have hl2 : ((ws.take i).map cutW).length = i := by simp; omega
          show (pad8 ((ws.take i).map cutW)).set i (cutW ws[i]) = pad8 ((ws.take (i + 1)).map cutW)
          have := pad8_set ((ws.take i).map cutW) (cutW ws[i]) (by omega)
          rw [hl2] at this
          rw [this, List.take_succ_eq_append_getElem (by omega), List.map_append]
          rfl
        rw [this]
        rfl
      have u := hn.upd (Upd.set hn.fn hn.at_ (.cells (newSh quantum ws (i + 1)).cells))
      rw [hset] at hs
      have ecut : max 1 (min ws[i] 20) = cutW ws[i] := rfl
      simp only [l25_4, r25_3, r25_4, r25_5, r25_6, opn_z, opn_s, sel_z, sel_s, qCd_eq, qIf_true, qIf_false, qFn_eq, qBl_eq, qO_some, qRes_val, qHp_some, qPick_true, qPick_false, qG_tt, qG_ff, qG_tf, qG_ft, cellsK_some, qLd_ptr, qLd_vptr, qLdA_ptr, qLdA_vptr, qFa_ptr, qFa_vptr, qNc_ptr, qNc_vptr, qNc_fn, qNot_bool, qExt_tup, qCallV_fn, qLss_int, qLeq_int, qGtr_int, qGeq_int, qEql_int, qNeq_int, qAdd_int, qSub_int, qMul_int, qConvI_int, qLenL_sl, qLenL_hsl, qLenS_str, foldO, min2_int, max2_int, qSame_refl, Nat.zero_add, List.getElem?_cons_zero, List.getElem?_cons_succ, List.nil_append, List.cons_append, List.append_nil, one_bool, one_int, one_str, one_nilp, one_ptr, one_sl, one_hsl, one_map, one_fn, List.length_cons, List.length_nil, List.set_cons_zero, List.set_cons_succ, Nat.reduceLT, Nat.reduceAdd, h1', decide_true, a1, a2, ev_scut hO, ecut, ha, hs, hlen, (by omega : 2 + i < 28), wrap_succ i (by omega)]
      exact hk (8 - (i + 1)) _ _ (by omega) ⟨i + 1, _, _, _, rfl, by omega, rfl, u⟩
    · have h1' : ¬ (i : Int) < ((min ws.length 8 : Nat) : Int) := by omega
      have hi2 : i = min ws.length 8 := by omega
      subst hi2
      simp only [l25_4, r25_3, r25_7, opn_z, opn_s, sel_z, sel_s, qCd_eq, qIf_true, qIf_false, qFn_eq, qBl_eq, qO_some, qRes_val, qHp_some, qPick_true, qPick_false, qG_tt, qG_ff, qG_tf, qG_ft, cellsK_some, qLd_ptr, qLd_vptr, qLdA_ptr, qLdA_vptr, qFa_ptr, qFa_vptr, qNc_ptr, qNc_vptr, qNc_fn, qNot_bool, qExt_tup, qCallV_fn, qLss_int, qLeq_int, qGtr_int, qGeq_int, qEql_int, qNeq_int, qAdd_int, qSub_int, qMul_int, qConvI_int, qLenL_sl, qLenL_hsl, qLenS_str, foldO, min2_int, max2_int, qSame_refl, Nat.zero_add, List.getElem?_cons_zero, List.getElem?_cons_succ, List.nil_append, List.cons_append, List.append_nil, one_bool, one_int, one_str, one_nilp, one_ptr, one_sl, one_hsl, one_map, one_fn, List.length_cons, List.length_nil, List.set_cons_zero, List.set_cons_succ, Nat.reduceLT, Nat.reduceAdd, h1', decide_false]
      exact ⟨trivial, hn⟩
  · exact ⟨0, _, _, _, rfl, by omega, rfl, n1⟩

end
end T
set_option linter.unusedVariables false
set_option linter.unusedSimpArgs false
set_option maxRecDepth 10000
namespace T
open Go Go.Aes Go.Proofs

/-- nothing that was there has turned -/
structure Ext (H H' : AH) (P : Nat → Prop) : Prop where
  fn : Aes.Fn H'
  nx : H.nx ≤ H'.nx
  keep : ∀ j, j < H.nx → ¬ P j → H'.get j = H.get j

theorem Ext.refl {H : AH} (hf : Aes.Fn H) (P : Nat → Prop) : Ext H H P := ⟨hf, Nat.le_refl _, fun _ _ _ => rfl⟩
theorem Ext.trans {H H1 H2 : AH} {P Q : Nat → Prop} (h : Ext H H1 P) (k : Ext H1 H2 Q) (hq : ∀ j, j < H.nx → Q j → P j) : Ext H H2 P :=
  ⟨k.fn, Nat.le_trans h.nx k.nx, fun j hj hp => (k.keep j (Nat.lt_of_lt_of_le hj h.nx) (fun q => hp (hq j hj q))).trans (h.keep j hj hp)⟩
theorem Upd.ext {H H' : AH} {p : Nat} {o : AO} (h : Upd H H' p o) : Ext H H' (· = p) := ⟨h.fn, by rw [h.nx]; exact Nat.le_refl _, fun j _ hj => h.other j hj⟩
theorem New.ext {H H' : AH} {o : AO} (h : New H H' o) : Ext H H' (fun _ => False) := ⟨h.fn, by rw [h.nx]; omega, fun j hj _ => h.other j hj⟩

theorem rowsOf_one : ∀ (n : Nat) (l : List AV), n ≤ l.length → rowsOf 1 n l = (l.take n).map fun x => [x]
  | 0, l, h => by simp [rowsOf]
  | n + 1, [], h => by simp at h
  | n + 1, a :: l, h => by simp [rowsOf, rowsOf_one n l (by simpa using h)]

theorem Sh.served_cells {s : Sh} (ok : s.Ok) {n : Nat} (hn : n ≤ 8) : slice? s.cells 18 n = some (ints (s.Sv.take n)) := by
  have hl := Sh.len ok
  have e : (s.cells.drop 18).take n = ints (s.Sv.take n) := by
    apply List.ext_getElem?
    intro i
    rw [List.getElem?_take]
    split
    · rename_i hi
      rw [List.getElem?_drop]
      have := getD_some (l := s.Sv) (i := i) (by rw [ok.v]; omega)
      rw [Sh.get_v ok (by omega) this]
      symm
      exact ints_get _ _ _ (by rw [List.getElem?_take, if_pos hi]; exact this)
    · rename_i hi
      rw [List.getElem?_eq_none]
      simp [ints_len, ok.v]; omega
  have hl2 : (ints (s.Sv.take n)).length = n := by rw [ints_len, List.length_take, ok.v]; omega
  unfold slice?
  rw [e]
  simp only [hl2, Nat.beq_refl, cond_true]

theorem Sh.credit_cells {s : Sh} (ok : s.Ok) {n : Nat} (hn : n ≤ 8) : slice? s.cells 10 n = some (ints (s.Cr.take n)) := by
  have hl := Sh.len ok
  have e : (s.cells.drop 10).take n = ints (s.Cr.take n) := by
    apply List.ext_getElem?
    intro i
    rw [List.getElem?_take]
    split
    · rename_i hi
      rw [List.getElem?_drop]
      have := getD_some (l := s.Cr) (i := i) (by rw [ok.c]; omega)
      rw [Sh.get_c ok (by omega) this]
      symm
      exact ints_get _ _ _ (by rw [List.getElem?_take, if_pos hi]; exact this)
    · rename_i hi
      rw [List.getElem?_eq_none]
      simp [ints_len, ok.c]; omega
  have hl2 : (ints (s.Cr.take n)).length = n := by rw [ints_len, List.length_take, ok.c]; omega
  unfold slice?
  rw [e]
  simp only [hl2, Nat.beq_refl, cond_true]

theorem slc90 (p o n : Nat) (hn : n ≤ 8) (k : AV → Prop) : qSlc Try.t90.desc 1 (.ptr p o) none (some (.int .i64 (n : Int))) none k = k (.hsl p o n 8 1 false) := by
  have h : sliceD Try.t90.desc 1 (.ptr p o) none (some (.int .i64 (n : Int))) none = some (.hsl p o n 8 1 false) := by
    show (match bnd (some (.int .i64 (n : Int))) 8 8 with
      | none => none
      | some h => match bnd none 0 h with
        | none => none
        | some l => some (AV.hsl p (o + l * 1) (h - l) (8 - l) 1 false)) = _
    have hb : n.ble 8 = true := by simpa using hn
    have h2 : bnd (some (.int .i64 (n : Int))) 8 8 = some n := by simp [bnd, asN, hb]
    rw [h2]
    rfl
  unfold qSlc
  rw [h, qO_some]

theorem ints_rows (zs : List Int) : (ints zs).map (fun x => [x]) = intRows .i64 zs := by simp [ints, intRows]

/-- what is appended to nothing -/
theorem app_nil {H : AH} (hf : Aes.Fn H) {i o n c : Nat} {cs : List AV} {zs : List Int} (hg : H.get i = some (.cells cs)) (hs : slice? cs o n = some (ints zs)) (hz : zs.length = n) (hn : n ≤ 1000000) :
    ∃ tk H', (∀ k : AV → AH → Prop, qApp 1 8 (.sl [] .nil) (.hsl i o n c 1 false) false H k = k (.sl (intRows .i64 zs) tk) H') ∧ Ext H H' (fun _ => False) := by
  have hr : readRows 1 (.hsl i o n c 1 false) H = some (intRows .i64 zs) := by
    simp only [readRows, hg, Nat.mul_one, hs, Option.map_some]
    have := rowsOf_one n (ints zs) (by rw [ints_len, hz]; exact Nat.le_refl _)
    simp only [Nat.beq_refl, cond_true, this]
    rw [List.take_of_length_le (by rw [ints_len, hz]; exact Nat.le_refl _), ints_rows]
  cases zs with
  | nil =>
    refine ⟨.nil, H, fun k => ?_, .refl hf _⟩
    have : app 1 8 (.sl [] .nil) (.hsl i o n c 1 false) false H = some (.sl [] .nil, H) := by
      unfold app
      rw [hr]
      rfl
    unfold qApp
    rw [this]
    rfl
  | cons z zs =>
    refine ⟨.own H.nx, H.push .tok, fun k => ?_, (New.push hf .tok).ext⟩
    have hl : ((intRows .i64 (z :: zs)).length * (8 + 1)).blt most = true := by
      rw [Nat.blt_eq, intRows_len]
      unfold most
      omega
    have : app 1 8 (.sl [] .nil) (.hsl i o n c 1 false) false H = some (.sl (intRows .i64 (z :: zs)) (.own H.nx), H.push .tok) := by
      unfold app
      rw [hr]
      simp only [List.length_nil, Nat.zero_add, hl]
      simp [hf.new, intRows]
      rfl
    unfold qApp
    rw [this]
    rfl

/-! ### one step, and who is served -/
def stp (A : List Int) (s : Sh) : Sh × Option Nat :=
  let i := s.pos
  let a := A.getD i 0
  if a = 0 then ({ s with Cr := s.Cr.set i 0, pos := (i + 1) % s.n, vis := false }, none)
  else
    let c := if s.vis then s.Cr.getD i 0 else s.Cr.getD i 0 + s.q * s.W.getD i 0
    if a ≤ c then ({ s with Cr := s.Cr.set i (c - a), Sv := s.Sv.set i (s.Sv.getD i 0 + a), vis := true }, some i)
    else ({ s with Cr := s.Cr.set i c, pos := (i + 1) % s.n, vis := false }, none)

def srv (A : List Int) : Nat → Sh → Option (Nat × Sh)
  | 0, _ => none
  | m + 1, s => match stp A s with
    | (s', some i) => some (i, s')
    | (s', none) => srv A m s'

/-- how great credits are -/
def CB (s : Sh) : Prop := ∀ (i : Nat) (x : Int), s.Cr[i]? = some x → 0 ≤ x ∧ x ≤ 70000 ∧ ((i ≠ s.pos ∨ s.vis = false) → x ≤ 50000)
def SB (s : Sh) (b : Int) : Prop := ∀ (i : Nat) (x : Int), s.Sv[i]? = some x → 0 ≤ x ∧ x ≤ b
def AB (s : Sh) (A : List Int) : Prop := A.length = 8 ∧ ∀ (i : Nat) (x : Int), A[i]? = some x → 0 ≤ x ∧ x ≤ 50 * s.q

def asks (q : Int) (n : Nat) (cs : List Int) (k : Nat) : List Int := pad8 ((cs.take k).map fun c => max 0 (min c (50 * q)))

theorem set_get {l : List Int} {i j : Nat} {v x : Int} (h : (l.set i v)[j]? = some x) : (j = i ∧ x = v) ∨ (j ≠ i ∧ l[j]? = some x) := by
  rw [List.getElem?_set] at h
  split at h
  · rename_i e
    split at h
    · simp at h; exact .inl ⟨e.symm, h.symm⟩
    · cases h
  · rename_i e
    exact .inr ⟨Ne.symm e, h⟩

/-- what a step leaves -/
theorem stp_ok {A : List Int} {s : Sh} {b : Int} (ok : s.Ok) (hn : s.pos < s.n) (cb : CB s) (sb : SB s b) (ab : AB s A) :
    (stp A s).1.Ok ∧ (stp A s).1.pos < s.n ∧ CB (stp A s).1 ∧ SB (stp A s).1 (b + 50000) ∧ (stp A s).1.q = s.q ∧ (stp A s).1.n = s.n ∧ (stp A s).1.W = s.W ∧ ((stp A s).2 = none → SB (stp A s).1 b) := by
  have hp8 : s.pos < 8 := by have := ok.n8; omega
  have hmod : (s.pos + 1) % s.n < s.n := Nat.mod_lt _ (by omega)
  have ec := getD_some (l := s.Cr) (i := s.pos) (by rw [ok.c]; exact hp8)
  have ea := getD_some (l := A) (i := s.pos) (by rw [ab.1]; exact hp8)
  have ev := getD_some (l := s.Sv) (i := s.pos) (by rw [ok.v]; exact hp8)
  have ew := getD_some (l := s.W) (i := s.pos) (by rw [ok.w]; exact hp8)
  obtain ⟨a0, a1⟩ := ab.2 _ _ ea
  obtain ⟨c0, c1, c2⟩ := cb _ _ ec
  obtain ⟨w0, w1⟩ := ok.w1 _ _ ew
  obtain ⟨v0, v1⟩ := sb _ _ ev
  have q1 := ok.q1; have q2 := ok.q2
  have qw0 : 0 ≤ s.q * s.W.getD s.pos 0 := Int.mul_nonneg (by omega) w0
  have qw1 : s.q * s.W.getD s.pos 0 ≤ 20000 := by have := Int.mul_le_mul q2 w1 w0 (by decide); simpa using this
  have hcc : ∃ c, (if s.vis = true then s.Cr.getD s.pos 0 else s.Cr.getD s.pos 0 + s.q * s.W.getD s.pos 0) = c ∧ 0 ≤ c ∧ c ≤ 70000 := by
    refine ⟨_, rfl, ?_, ?_⟩
    · split <;> omega
    · split
      · omega
      · rename_i hv
        have := c2 (.inr (by simpa using hv))
        omega
  obtain ⟨c, hce, hc0, hc1⟩ := hcc
  unfold stp
  simp only [hce]
  by_cases h0 : A.getD s.pos 0 = 0
  · simp only [if_pos h0]
    refine ⟨⟨ok.w, by simp [ok.c], ok.v, ok.n8, .inr hmod, ok.q1, ok.q2, ok.w1, ok.w2⟩, hmod, ?_, fun i x h => by obtain ⟨h1, h2⟩ := sb i x h; exact ⟨h1, by omega⟩, trivial, trivial, trivial, fun _ => sb⟩
    intro i x h
    rcases set_get h with ⟨rfl, rfl⟩ | ⟨h1, h2⟩
    · omega
    · obtain ⟨d0, d1, d2⟩ := cb i x h2
      exact ⟨d0, d1, fun _ => d2 (.inl h1)⟩
  · simp only [if_neg h0]
    by_cases hle : A.getD s.pos 0 ≤ c
    · simp only [if_pos hle]
      refine ⟨⟨ok.w, by simp [ok.c], by simp [ok.v], ok.n8, .inr hn, ok.q1, ok.q2, ok.w1, ok.w2⟩, hn, ?_, ?_, trivial, trivial, trivial, fun h => by cases h⟩
      · intro i x h
        rcases set_get h with ⟨rfl, rfl⟩ | ⟨h1, h2⟩
        · refine ⟨by omega, by omega, fun h => ?_⟩
          rcases h with h | h
          · exact absurd rfl h
          · cases h
        · obtain ⟨d0, d1, d2⟩ := cb i x h2
          exact ⟨d0, d1, fun _ => d2 (.inl h1)⟩
      · intro i x h
        rcases set_get h with ⟨rfl, rfl⟩ | ⟨h1, h2⟩
        · constructor <;> omega
        · obtain ⟨d0, d1⟩ := sb i x h2
          constructor <;> omega
    · simp only [if_neg hle]
      refine ⟨⟨ok.w, by simp [ok.c], ok.v, ok.n8, .inr hmod, ok.q1, ok.q2, ok.w1, ok.w2⟩, hmod, ?_, fun i x h => by obtain ⟨h1, h2⟩ := sb i x h; exact ⟨h1, by omega⟩, trivial, trivial, trivial, fun _ => sb⟩
      intro i x h
      rcases set_get h with ⟨rfl, rfl⟩ | ⟨h1, h2⟩
      · exact ⟨hc0, by omega, fun _ => by omega⟩
      · obtain ⟨d0, d1, d2⟩ := cb i x h2
        exact ⟨d0, d1, fun _ => d2 (.inl h1)⟩

section
variable {O : CallF} (hO : OutO O)
include hO

theorem ev_served {H : AH} (hf : Aes.Fn H) {p : Nat} {s : Sh} (ok : s.Ok) (h : H.get p = some (.cells s.cells)) :
    ∃ tk H', evl X O 30 [.ptr p 0] H = some (.val (.sl (intRows .i64 (s.Sv.take s.n)) tk) H') ∧ Ext H H' (fun _ => False) := by
  obtain ⟨tk, H', h1, h2⟩ := app_nil (c := 8) hf h (Sh.served_cells ok ok.n8) (by simp [ok.v, ok.n8]) (by have := ok.n8; omega)
  refine ⟨tk, H', of_form_eq e30 xf30 (hO _ _ _ (by decide) (by decide)) ?_, h2⟩
  simp only [c30, r30_0, r30_1, opn_z, opn_s, sel_z, sel_s, qCd_eq, qIf_true, qIf_false, qFn_eq, qBl_eq, qO_some, qRes_val, qHp_some, qPick_true, qPick_false, qG_tt, qG_ff, qG_tf, qG_ft, cellsK_some, qLd_ptr, qLd_vptr, qLdA_ptr, qLdA_vptr, qFa_ptr, qFa_vptr, qNc_ptr, qNc_vptr, qNc_fn, qNot_bool, qExt_tup, qCallV_fn, qLss_int, qLeq_int, qGtr_int, qGeq_int, qEql_int, qNeq_int, qAdd_int, qSub_int, qMul_int, qConvI_int, qLenL_sl, qLenL_hsl, qLenS_str, foldO, min2_int, max2_int, qSame_refl, Nat.zero_add, List.getElem?_cons_zero, List.getElem?_cons_succ, List.nil_append, List.cons_append, List.append_nil, one_bool, one_int, one_str, one_nilp, one_ptr, one_sl, one_hsl, one_map, one_fn, List.length_cons, List.length_nil, List.set_cons_zero, List.set_cons_succ, Nat.reduceLT, Nat.reduceAdd, ld h _ _ (Sh.get_n s), slc90 _ _ _ ok.n8, h1]
  exact ⟨trivial, trivial⟩

theorem ev_credit {H : AH} (hf : Aes.Fn H) {p : Nat} {s : Sh} (ok : s.Ok) (h : H.get p = some (.cells s.cells)) :
    ∃ tk H', evl X O 31 [.ptr p 0] H = some (.val (.sl (intRows .i64 (s.Cr.take s.n)) tk) H') ∧ Ext H H' (fun _ => False) := by
  obtain ⟨tk, H', h1, h2⟩ := app_nil (c := 8) hf h (Sh.credit_cells ok ok.n8) (by simp [ok.c, ok.n8]) (by have := ok.n8; omega)
  refine ⟨tk, H', of_form_eq e31 xf31 (hO _ _ _ (by decide) (by decide)) ?_, h2⟩
  simp only [c31, r31_0, r31_1, opn_z, opn_s, sel_z, sel_s, qCd_eq, qIf_true, qIf_false, qFn_eq, qBl_eq, qO_some, qRes_val, qHp_some, qPick_true, qPick_false, qG_tt, qG_ff, qG_tf, qG_ft, cellsK_some, qLd_ptr, qLd_vptr, qLdA_ptr, qLdA_vptr, qFa_ptr, qFa_vptr, qNc_ptr, qNc_vptr, qNc_fn, qNot_bool, qExt_tup, qCallV_fn, qLss_int, qLeq_int, qGtr_int, qGeq_int, qEql_int, qNeq_int, qAdd_int, qSub_int, qMul_int, qConvI_int, qLenL_sl, qLenL_hsl, qLenS_str, foldO, min2_int, max2_int, qSame_refl, Nat.zero_add, List.getElem?_cons_zero, List.getElem?_cons_succ, List.nil_append, List.cons_append, List.append_nil, one_bool, one_int, one_str, one_nilp, one_ptr, one_sl, one_hsl, one_map, one_fn, List.length_cons, List.length_nil, List.set_cons_zero, List.set_cons_succ, Nat.reduceLT, Nat.reduceAdd, ld h _ _ (Sh.get_n s), slc90 _ _ _ ok.n8, h1]
  exact ⟨trivial, trivial⟩

end
end T
set_option linter.unusedVariables false
set_option linter.unusedSimpArgs false
set_option maxRecDepth 10000
namespace T
open Go Go.Aes Go.Proofs

theorem asks_len (q : Int) (n : Nat) (cs : List Int) (k : Nat) (h : k ≤ 8) : (asks q n cs k).length = 8 := pad8_len _ (by simp; omega)

theorem set_self {l : List Int} {i : Nat} {x : Int} (h : l[i]? = some x) : l.set i x = l := by
  have hi := (List.getElem?_eq_some_iff.1 h).1
  have hx := (List.getElem?_eq_some_iff.1 h).2
  rw [← hx]
  exact List.set_getElem_self hi

theorem set_set' {l : List Int} {i : Nat} {x y : Int} : (l.set i x).set i y = l.set i y := List.set_set ..

section
variable {O : CallF} (hO : OutO O)
include hO

/-- the second loop of Next: some have something -/
theorem next_loop {H0 H : AH} {p pa : Nat} {A : List Int} {s : Sh} {R : Nat × Sh} {b : Int} (hp : p < H0.nx) (hpa : H0.nx ≤ pa) (ok : s.Ok) (hn : s.pos < s.n) (cb : CB s) (sb : SB s b) (hb : b ≤ 4000000000000000000) (ab : AB s A)
    (h1 : H.get p = some (.cells s.cells)) (h2 : H.get pa = some (.cells (ints A))) (ext : Ext H0 H (· = p)) {m : Nat} (hs : srv A m s = some R) {Q : AV → AH → Prop}
    (hQ : ∀ H', Ext H0 H' (· = p) → H'.get p = some (.cells R.2.cells) → R.2.Ok → R.2.pos < R.2.n → CB R.2 → SB R.2 (b + 50000) → R.2.q = s.q → R.2.n = s.n → R.2.W = s.W → R.1 < 8 → Q (.tup [.int .i64 (R.1 : Int), .bool true]) H')
    (x1 x4 x5 x7 x8 x9 x10 x17 x18 x19 x43 x62 x69 x101 : AV) :
    qLoop (l27_7 (evl X O) (fun fr H => Q (.tup [sel 2 fr, sel 3 fr]) H)) [.ptr p 0, x1, x4, x5, .ptr pa 0, x7, x8, x9, x10, x17, x18, x19, x43, x62, x69, x101] H := by
  refine loop_inv (fun m fr H => ∃ (t : Sh) (x1 x4 x5 x7 x8 x9 x10 x17 x18 x19 x43 x62 x69 x101 : AV), fr = [.ptr p 0, x1, x4, x5, .ptr pa 0, x7, x8, x9, x10, x17, x18, x19, x43, x62, x69, x101] ∧ t.Ok ∧ t.pos < t.n ∧ CB t ∧ SB t b ∧ AB t A ∧ t.q = s.q ∧ t.n = s.n ∧ t.W = s.W ∧ H.get p = some (.cells t.cells) ∧ H.get pa = some (.cells (ints A)) ∧ Ext H0 H (· = p) ∧ srv A m t = some R) ?_ (m := m) ?_
  · rintro m fr H k ⟨t, x1, x4, x5, x7, x8, x9, x10, x17, x18, x19, x43, x62, x69, x101, rfl, ok, hn, cb, sb, ab, eq1, eq2, eq3, h1, h2, ext, hs⟩ hk
    cases m with
    | zero => cases hs
    | succ m =>
      obtain ⟨o1, o2, o3, o4, o5, o6, o7, o8⟩ := stp_ok ok hn cb sb ab
      have hp8 : t.pos < 8 := by have := ok.n8; omega
      have hne : pa ≠ p := by omega
      have ec := getD_some (l := t.Cr) (i := t.pos) (by rw [ok.c]; exact hp8)
      have ea := getD_some (l := A) (i := t.pos) (by rw [ab.1]; exact hp8)
      have ev := getD_some (l := t.Sv) (i := t.pos) (by rw [ok.v]; exact hp8)
      have ew := getD_some (l := t.W) (i := t.pos) (by rw [ok.w]; exact hp8)
      obtain ⟨a0, a1⟩ := ab.2 _ _ ea
      obtain ⟨c0, c1, c2⟩ := cb _ _ ec
      obtain ⟨w0, w1⟩ := ok.w1 _ _ ew
      obtain ⟨v0, v1⟩ := sb _ _ ev
      have q1 := ok.q1; have q2 := ok.q2
      have qw0 : 0 ≤ t.q * t.W.getD t.pos 0 := Int.mul_nonneg (by omega) w0
      have qw1 : t.q * t.W.getD t.pos 0 ≤ 20000 := by have := Int.mul_le_mul q2 w1 w0 (by decide); simpa using this
      have L26 := ld h1 _ _ (Sh.get_pos ok)
      have L27 := ld h1 _ _ (Sh.get_vis ok)
      have L0 := ld h1 _ _ (Sh.get_q t)
      have LA := ld h2 t.pos _ (ints_get _ _ _ ea)
      have LC := ld h1 (10 + t.pos) _ (Sh.get_c ok hp8 ec)
      have LW := ld h1 (2 + t.pos) _ (Sh.get_w ok hp8 ew)
      have I0 := qIaA1 pa 0 t.pos hp8
      have I10 := qIaA1 p 10 t.pos hp8
      have I2 := qIaA1 p 2 t.pos hp8
      rw [Nat.zero_add] at I0
      -- behind a step that served nobody
      have next : ∀ (t1 : Sh) (H1 : AH) (x1 x4 x5 x7 x8 x9 x10 x17 x18 x19 x43 x62 x69 x101 : AV), t1.Ok → t1.pos < t1.n → H1.get p = some (.cells t1.cells) → Ext H H1 (· = p) → Aes.Fn H1 → stp A t = ({ t1 with pos := (t1.pos + 1) % t1.n, vis := false }, none) →
          ∃ H2, evl X O 47 [.ptr p 0] H1 = some (.val (.tup []) H2) ∧ k [.ptr p 0, x1, x4, x5, .ptr pa 0, x7, x8, x9, x10, x17, x18, x19, x43, x62, x69, x101] H2 := by
        intro t1 H1 x1 x4 x5 x7 x8 x9 x10 x17 x18 x19 x43 x62 x69 x101 k1 k2 k3 k4 k5 k6
        obtain ⟨H2, u1, u2⟩ := ev_on hO k5 k1 k2 k3
        refine ⟨H2, u1, ?_⟩
        rw [k6] at o1 o2 o3 o4 o5 o6 o7 o8
        have hs2 : srv A m { t1 with pos := (t1.pos + 1) % t1.n, vis := false } = some R := by
          simp only [srv, k6] at hs
          exact hs
        have e2 : Ext H0 H2 (· = p) := (ext.trans k4 (fun j _ h => h)).trans u2.ext (fun j _ h => h)
        refine hk m _ _ (Nat.lt_succ_self _) ⟨_, _, _, _, _, _, _, _, _, _, _, _, _, _, _, rfl, o1, by have h := o2; have h6 := o6; simp only at h h6 ⊢; omega, o3, o8 rfl, ⟨ab.1, by have h5 := o5; simp only at h5 ⊢; rw [h5]; exact ab.2⟩, o5.trans eq1, o6.trans eq2, o7.trans eq3, u2.at_, ?_, e2, hs2⟩
        rw [u2.other pa hne, k4.keep pa (ext.fn.lt h2) hne]
        exact h2
      by_cases hz : A.getD t.pos 0 = 0
      · have hz' : (A.getD t.pos 0 == 0) = true := by simpa using hz
        have st := qSt_one (R := Prop) ext.fn h1 (10 + t.pos) (.int .i64 0)
        rw [Sh.set_c ok 0 hp8] at st
        have u := Upd.set ext.fn h1 (.cells { t with Cr := t.Cr.set t.pos 0 }.cells)
        obtain ⟨H2, n1, n2⟩ := next { t with Cr := t.Cr.set t.pos 0 } _ x1 x4 x5 x7 x8 (.int .i64 (A.getD t.pos 0)) (.ptr p (10 + t.pos)) x17 x18 x19 x43 (.bool true) x69 x101 ⟨ok.w, by simp [ok.c], ok.v, ok.n8, ok.a, ok.q1, ok.q2, ok.w1, ok.w2⟩ hn u.at_ u.ext u.fn
          (by unfold stp; simp only [if_pos hz])
        simp only [l27_7, r27_12, r27_13, r27_14, r27_15, opn_z, opn_s, sel_z, sel_s, qCd_eq, qIf_true, qIf_false, qFn_eq, qBl_eq, qO_some, qRes_val, qHp_some, qPick_true, qPick_false, qG_tt, qG_ff, qG_tf, qG_ft, cellsK_some, qLd_vptr, qLdA_vptr, qFa_ptr, qFa_vptr, qNc_ptr, qNc_vptr, qNc_fn, qNot_bool, qExt_tup, qCallV_fn, qLss_int, qLeq_int, qGtr_int, qGeq_int, qEql_int, qNeq_int, qAdd_int, qSub_int, qMul_int, qConvI_int, qLenL_sl, qLenL_hsl, qLenS_str, foldO, min2_int, max2_int, qSame_refl, Nat.zero_add, List.getElem?_cons_zero, List.getElem?_cons_succ, List.nil_append, List.cons_append, List.append_nil, one_bool, one_int, one_str, one_nilp, one_ptr, one_sl, one_hsl, one_map, one_fn, List.length_cons, List.length_nil, List.set_cons_zero, List.set_cons_succ, Nat.reduceLT, Nat.reduceAdd, L26, LA, I0, I10, hz', st, Sh.len ok, (by omega : 10 + t.pos < 28), n1]
        exact n2
      · have hz' : (A.getD t.pos 0 == 0) = false := by simpa using hz
        -- behind what is added when it is come to
        have tail : ∀ (t1 : Sh) (H1 : AH) (c : Int) (x69 : AV), t1.Ok → t1.pos = t.pos → t1.n = t.n → t1.Cr = t.Cr.set t.pos c → t1.vis = true → t1.Sv = t.Sv → t1.W = t.W → t1.q = t.q → 0 ≤ c → c ≤ 70000 → (if t.vis = true then t.Cr.getD t.pos 0 else t.Cr.getD t.pos 0 + t.q * t.W.getD t.pos 0) = c →
            H1.get p = some (.cells t1.cells) → Ext H H1 (· = p) → Aes.Fn H1 →
            r27_19 (qCd (sel 15) (fun _ => r27_20 (r27_21 (r27_22 (fun fr H => Q (.tup [sel 2 fr, sel 3 fr]) H)))) (fun k4 => k4) (r27_23 (evl X O) k))
              [.ptr p 0, x1, x4, x5, .ptr pa 0, x7, x8, .int .i64 (A.getD t.pos 0), .ptr p (10 + t.pos), x17, x18, x19, x43, .bool false, x69, x101] H1 := by
          intro t1 H1 c x69 k1 kp kn kc kv ks kw kq hc0 hc1 hce kg ke kf
          have ec1 : t1.Cr[t.pos]? = some c := by rw [kc, List.getElem?_set]; simp [ok.c, hp8]
          have LC1 := ld kg (10 + t.pos) _ (Sh.get_c k1 hp8 ec1)
          by_cases hle : A.getD t.pos 0 ≤ c
          · have st1 := qSt_one (R := Prop) kf kg (10 + t.pos) (.int .i64 (c - A.getD t.pos 0))
            rw [Sh.set_c k1 _ hp8] at st1
            have u1 := Upd.set kf kg (.cells { t1 with Cr := t1.Cr.set t.pos (c - A.getD t.pos 0) }.cells)
            generalize H1.set p (some (.cells { t1 with Cr := t1.Cr.set t.pos (c - A.getD t.pos 0) }.cells)) = H2 at st1 u1
            have k1' : { t1 with Cr := t1.Cr.set t.pos (c - A.getD t.pos 0) }.Ok := ⟨k1.w, by simp [k1.c], k1.v, k1.n8, k1.a, k1.q1, k1.q2, k1.w1, k1.w2⟩
            have ev1 : t1.Sv[t.pos]? = some (t.Sv.getD t.pos 0) := by rw [ks]; exact ev
            have L26b := ld u1.at_ _ _ (Sh.get_pos k1')
            have LV := ld u1.at_ (18 + t.pos) _ (Sh.get_v k1' hp8 ev1)
            have I18 := qIaA1 p 18 t.pos hp8
            have st2 := qSt_one (R := Prop) u1.fn u1.at_ (18 + t.pos) (.int .i64 (t.Sv.getD t.pos 0 + A.getD t.pos 0))
            rw [Sh.set_v k1' _ hp8] at st2
            have u2 := Upd.set u1.fn u1.at_ (.cells { t1 with Cr := t1.Cr.set t.pos (c - A.getD t.pos 0), Sv := t1.Sv.set t.pos (t.Sv.getD t.pos 0 + A.getD t.pos 0) }.cells)
            have hst : stp A t = ({ t1 with Cr := t1.Cr.set t.pos (c - A.getD t.pos 0), Sv := t1.Sv.set t.pos (t.Sv.getD t.pos 0 + A.getD t.pos 0) }, some t.pos) := by
              unfold stp
              simp only [if_neg hz, hce, if_pos hle]
              obtain ⟨tq, tn, tW, tC, tS, tp, tv⟩ := t
              obtain ⟨uq, un, uW, uC, uS, up, uv⟩ := t1
              simp only at kp kn kc kv ks kw kq
              subst kp; subst kn; subst kc; subst kv; subst ks; subst kw; subst kq
              simp only [set_set']
            have hR : R = (t.pos, { t1 with Cr := t1.Cr.set t.pos (c - A.getD t.pos 0), Sv := t1.Sv.set t.pos (t.Sv.getD t.pos 0 + A.getD t.pos 0) }) := by
              simp only [srv, hst, Option.some.injEq] at hs
              exact hs.symm
            rw [hst] at o1 o2 o3 o4 o5 o6 o7
            have e2 : Ext H0 _ (· = p) := (ext.trans ke (fun j _ h => h)).trans ((u1.trans u2).ext) (fun j _ h => h)
            have L26c := ld u2.at_ _ _ (Sh.get_pos o1)
            generalize H2.set p _ = H3 at st2 u2 e2 L26c
            have okl : { t1 with Cr := t1.Cr.set t.pos (c - A.getD t.pos 0) }.cells.length = 28 := Sh.len k1'
            simp only [kp] at L26b L26c
            simp only [r27_19, r27_20, r27_21, r27_22, opn_z, opn_s, sel_z, sel_s, qCd_eq, qIf_true, qIf_false, qFn_eq, qBl_eq, qO_some, qRes_val, qHp_some, qPick_true, qPick_false, qG_tt, qG_ff, qG_tf, qG_ft, cellsK_some, qLd_vptr, qLdA_vptr, qFa_ptr, qFa_vptr, qNc_ptr, qNc_vptr, qNc_fn, qNot_bool, qExt_tup, qCallV_fn, qLss_int, qLeq_int, qGtr_int, qGeq_int, qEql_int, qNeq_int, qAdd_int, qSub_int, qMul_int, qConvI_int, qLenL_sl, qLenL_hsl, qLenS_str, foldO, min2_int, max2_int, qSame_refl, Nat.zero_add, List.getElem?_cons_zero, List.getElem?_cons_succ, List.nil_append, List.cons_append, List.append_nil, one_bool, one_int, one_str, one_nilp, one_ptr, one_sl, one_hsl, one_map, one_fn, List.length_cons, List.length_nil, List.set_cons_zero, List.set_cons_succ, Nat.reduceLT, Nat.reduceAdd, LC1, hle, decide_true, i64_in (x := c - A.getD t.pos 0) (by omega), i64_in (x := t.Sv.getD t.pos 0 + A.getD t.pos 0) (by omega), st1, Sh.len k1, okl, (by omega : 10 + t.pos < 28), (by omega : 18 + t.pos < 28), L26b, LV, I18, st2, L26c]
            subst hR
            exact hQ H3 e2 u2.at_ o1 (by have h := o2; have h6 := o6; simp only at h h6 ⊢; omega) o3 o4 (o5.trans eq1) (o6.trans eq2) (o7.trans eq3) hp8
          · have hle' : ¬ (c ≥ A.getD t.pos 0) := hle
            obtain ⟨H2, n1, n2⟩ := next t1 H1 x1 x4 x5 x7 x8 (.int .i64 (A.getD t.pos 0)) (.ptr p (10 + t.pos)) x17 x18 x19 x43 (.bool false) x69 (.bool false) k1 (by rw [kp, kn]; exact hn) kg ke kf (by
              unfold stp
              simp only [if_neg hz, hce, if_neg hle]
              obtain ⟨tq, tn, tW, tC, tS, tp, tv⟩ := t
              obtain ⟨uq, un, uW, uC, uS, up, uv⟩ := t1
              simp only at kp kn kc kv ks kw kq
              subst kp; subst kn; subst kc; subst kv; subst ks; subst kw; subst kq
              rfl)
            simp only [r27_19, r27_23, opn_z, opn_s, sel_z, sel_s, qCd_eq, qIf_true, qIf_false, qFn_eq, qBl_eq, qO_some, qRes_val, qHp_some, qPick_true, qPick_false, qG_tt, qG_ff, qG_tf, qG_ft, cellsK_some, qLd_vptr, qLdA_vptr, qFa_ptr, qFa_vptr, qNc_ptr, qNc_vptr, qNc_fn, qNot_bool, qExt_tup, qCallV_fn, qLss_int, qLeq_int, qGtr_int, qGeq_int, qEql_int, qNeq_int, qAdd_int, qSub_int, qMul_int, qConvI_int, qLenL_sl, qLenL_hsl, qLenS_str, foldO, min2_int, max2_int, qSame_refl, Nat.zero_add, List.getElem?_cons_zero, List.getElem?_cons_succ, List.nil_append, List.cons_append, List.append_nil, one_bool, one_int, one_str, one_nilp, one_ptr, one_sl, one_hsl, one_map, one_fn, List.length_cons, List.length_nil, List.set_cons_zero, List.set_cons_succ, Nat.reduceLT, Nat.reduceAdd, LC1, hle, decide_false, n1]
            exact n2
        cases hv : t.vis with
        | true =>
          rw [hv] at L27
          have := tail t H (t.Cr.getD t.pos 0) (.bool false) ok rfl rfl (by rw [set_self ec]) hv rfl rfl rfl c0 c1 (by rw [if_pos hv]) h1 (.refl ext.fn _) ext.fn
          simp only [l27_7, r27_12, r27_13, r27_16, opn_z, opn_s, sel_z, sel_s, qCd_eq, qIf_true, qIf_false, qFn_eq, qBl_eq, qO_some, qRes_val, qHp_some, qPick_true, qPick_false, qG_tt, qG_ff, qG_tf, qG_ft, cellsK_some, qLd_vptr, qLdA_vptr, qFa_ptr, qFa_vptr, qNc_ptr, qNc_vptr, qNc_fn, qNot_bool, qExt_tup, qCallV_fn, qLss_int, qLeq_int, qGtr_int, qGeq_int, qEql_int, qNeq_int, qAdd_int, qSub_int, qMul_int, qConvI_int, qLenL_sl, qLenL_hsl, qLenS_str, foldO, min2_int, max2_int, qSame_refl, Nat.zero_add, List.getElem?_cons_zero, List.getElem?_cons_succ, List.nil_append, List.cons_append, List.append_nil, one_bool, one_int, one_str, one_nilp, one_ptr, one_sl, one_hsl, one_map, one_fn, List.length_cons, List.length_nil, List.set_cons_zero, List.set_cons_succ, Nat.reduceLT, Nat.reduceAdd, L26, LA, I0, I10, hz', L27, Bool.not_true]
          exact this
        | false =>
          rw [hv] at L27
          have hc2 := c2 (.inr hv)
          have st1 := qSt_one (R := Prop) ext.fn h1 (10 + t.pos) (.int .i64 (t.Cr.getD t.pos 0 + t.q * t.W.getD t.pos 0))
          rw [Sh.set_c ok _ hp8] at st1
          have u1 := Upd.set ext.fn h1 (.cells { t with Cr := t.Cr.set t.pos (t.Cr.getD t.pos 0 + t.q * t.W.getD t.pos 0) }.cells)
          generalize H.set p (some (.cells { t with Cr := t.Cr.set t.pos (t.Cr.getD t.pos 0 + t.q * t.W.getD t.pos 0) }.cells)) = H1 at st1 u1
          have k1' : { t with Cr := t.Cr.set t.pos (t.Cr.getD t.pos 0 + t.q * t.W.getD t.pos 0) }.Ok := ⟨ok.w, by simp [ok.c], ok.v, ok.n8, ok.a, ok.q1, ok.q2, ok.w1, ok.w2⟩
          have st2 := qSt_one (R := Prop) u1.fn u1.at_ 27 (.bool true)
          rw [Sh.set_vis k1'] at st2
          have u2 := Upd.set u1.fn u1.at_ (.cells { t with Cr := t.Cr.set t.pos (t.Cr.getD t.pos 0 + t.q * t.W.getD t.pos 0), vis := true }.cells)
          have := tail { t with Cr := t.Cr.set t.pos (t.Cr.getD t.pos 0 + t.q * t.W.getD t.pos 0), vis := true } _ (t.Cr.getD t.pos 0 + t.q * t.W.getD t.pos 0) (.bool true) ⟨ok.w, by simp [ok.c], ok.v, ok.n8, ok.a, ok.q1, ok.q2, ok.w1, ok.w2⟩ rfl rfl rfl rfl rfl rfl rfl (by omega) (by omega)
            (by rw [if_neg (by rw [hv]; decide)]) u2.at_ (u1.trans u2).ext u2.fn
          have okl : { t with Cr := t.Cr.set t.pos (t.Cr.getD t.pos 0 + t.q * t.W.getD t.pos 0) }.cells.length = 28 := Sh.len k1'
          simp only [l27_7, r27_12, r27_13, r27_16, r27_17, r27_18, opn_z, opn_s, sel_z, sel_s, qCd_eq, qIf_true, qIf_false, qFn_eq, qBl_eq, qO_some, qRes_val, qHp_some, qPick_true, qPick_false, qG_tt, qG_ff, qG_tf, qG_ft, cellsK_some, qLd_vptr, qLdA_vptr, qFa_ptr, qFa_vptr, qNc_ptr, qNc_vptr, qNc_fn, qNot_bool, qExt_tup, qCallV_fn, qLss_int, qLeq_int, qGtr_int, qGeq_int, qEql_int, qNeq_int, qAdd_int, qSub_int, qMul_int, qConvI_int, qLenL_sl, qLenL_hsl, qLenS_str, foldO, min2_int, max2_int, qSame_refl, Nat.zero_add, List.getElem?_cons_zero, List.getElem?_cons_succ, List.nil_append, List.cons_append, List.append_nil, one_bool, one_int, one_str, one_nilp, one_ptr, one_sl, one_hsl, one_map, one_fn, List.length_cons, List.length_nil, List.set_cons_zero, List.set_cons_succ, Nat.reduceLT, Nat.reduceAdd, L26, LA, I0, I10, I2, hz', L27, Bool.not_false, LC, L0, LW, i64_in (x := t.q * t.W.getD t.pos 0) (by omega), i64_in (x := t.Cr.getD t.pos 0 + t.q * t.W.getD t.pos 0) (by omega), st1, Sh.len ok, okl, (by omega : 10 + t.pos < 28), st2]
          exact this
  · exact ⟨s, _, _, _, _, _, _, _, _, _, _, _, _, _, _, rfl, ok, hn, cb, sb, ab, rfl, rfl, rfl, h1, h2, ext, hs⟩

end
end T
set_option linter.unusedVariables false
set_option linter.unusedSimpArgs false
set_option maxRecDepth 10000
namespace T
open Go Go.Aes Go.Proofs

def dist (j pos n : Nat) : Nat := if pos ≤ j then j - pos else j + n - pos
def meas (A : List Int) (j : Nat) (s : Sh) : Nat := s.n * (A.getD j 0 - s.Cr.getD j 0).toNat + dist j s.pos s.n + (if s.vis then s.n else 0)

theorem dist_next {j pos n : Nat} (hj : j < n) (hp : pos < n) (hne : pos ≠ j) : dist j ((pos + 1) % n) n + 1 = dist j pos n := by
  unfold dist
  by_cases h : pos + 1 < n
  · rw [Nat.mod_eq_of_lt h]
    split <;> split <;> omega
  · have : pos + 1 = n := by omega
    rw [this, Nat.mod_self]
    split <;> split <;> omega

theorem dist_self {j n : Nat} (hj : j < n) : dist j ((j + 1) % n) n = n - 1 := by
  unfold dist
  by_cases h : j + 1 < n
  · rw [Nat.mod_eq_of_lt h]
    split <;> omega
  · have : j + 1 = n := by omega
    rw [this, Nat.mod_self]
    split <;> omega

theorem getD_set_ne {l : List Int} {i j : Nat} {v : Int} (h : i ≠ j) : (l.set i v).getD j 0 = l.getD j 0 := by
  rw [List.getD_eq_getElem?_getD, List.getD_eq_getElem?_getD, List.getElem?_set_ne h]
theorem getD_set_eq {l : List Int} {i : Nat} {v : Int} (h : i < l.length) : (l.set i v).getD i 0 = v := by
  rw [List.getD_eq_getElem?_getD, List.getElem?_set_self h]; rfl

theorem stp_meas {A : List Int} {s s' : Sh} {j : Nat} (ok : s.Ok) (hn : s.pos < s.n) (hj : j < s.n) (ha : 0 < A.getD j 0) (h : stp A s = (s', none)) : meas A j s' < meas A j s := by
  have n8 := ok.n8
  have hcl : s.pos < s.Cr.length := by rw [ok.c]; omega
  unfold stp at h
  simp only [] at h
  by_cases h0 : A.getD s.pos 0 = 0
  · simp only [if_pos h0, Prod.mk.injEq, and_true] at h
    subst h
    have hne : s.pos ≠ j := fun e => by rw [e] at h0; omega
    have := dist_next hj hn hne
    unfold meas
    simp only [getD_set_ne hne, Bool.false_eq_true, if_false]
    generalize s.n * (A.getD j 0 - s.Cr.getD j 0).toNat = Z
    split <;> omega
  · simp only [if_neg h0] at h
    generalize hc : (if s.vis = true then s.Cr.getD s.pos 0 else s.Cr.getD s.pos 0 + s.q * s.W.getD s.pos 0) = c at h
    by_cases hle : A.getD s.pos 0 ≤ c
    · simp only [if_pos hle, Prod.mk.injEq] at h
      cases h.2
    · simp only [if_neg hle, Prod.mk.injEq, and_true] at h
      subst h
      unfold meas
      by_cases hne : s.pos = j
      · subst hne
        simp only [getD_set_eq hcl]
        rw [dist_self hj]
        have hd0 : dist s.pos s.pos s.n = 0 := by unfold dist; simp
        rw [hd0]
        cases hv : s.vis with
        | true =>
          rw [if_pos hv] at hc
          subst hc
          simp only [Bool.false_eq_true, if_false, if_true]
          omega
        | false =>
          rw [if_neg (by rw [hv]; decide)] at hc
          have ew := getD_some (l := s.W) (i := s.pos) (by rw [ok.w]; omega)
          have w1 := ok.w2 _ _ hn ew
          have q1 := ok.q1
          have qw : 1 ≤ s.q * s.W.getD s.pos 0 := by
            have := Int.mul_le_mul q1 w1 (by decide) (by omega)
            simpa using this
          have hlt : (A.getD s.pos 0 - c).toNat + 1 ≤ (A.getD s.pos 0 - s.Cr.getD s.pos 0).toNat := by omega
          have hm := Nat.mul_le_mul_left s.n hlt
          rw [Nat.mul_add] at hm
          simp only [Bool.false_eq_true, if_false]
          omega
      · have := dist_next hj hn hne
        simp only [getD_set_ne hne, Bool.false_eq_true, if_false]
        generalize s.n * (A.getD j 0 - s.Cr.getD j 0).toNat = Z
        split <;> omega

theorem srv_some {A : List Int} {j : Nat} {b : Int} (ha : 0 < A.getD j 0) : ∀ (M : Nat) (s : Sh), meas A j s < M → s.Ok → s.pos < s.n → j < s.n → CB s → SB s b → AB s A → ∃ m R, srv A m s = some R
  | 0, s, h, _, _, _, _, _, _ => by omega
  | M + 1, s, h, ok, hn, hj, cb, sb, ab => by
    obtain ⟨o1, o2, o3, o4, o5, o6, o7, o8⟩ := stp_ok ok hn cb sb ab
    cases hs : stp A s with
    | mk s' o =>
      rw [hs] at o1 o2 o3 o4 o5 o6 o7 o8
      simp only at o1 o2 o3 o4 o5 o6 o7 o8
      cases o with
      | some i => exact ⟨1, (i, s'), by simp [srv, hs]⟩
      | none =>
        have hm := stp_meas ok hn hj ha hs
        obtain ⟨m, R, h1⟩ := srv_some ha M s' (by omega) o1 (by rw [o6]; exact o2) (by rw [o6]; exact hj) o3 (o8 rfl) ⟨ab.1, by rw [o5]; exact ab.2⟩
        exact ⟨m + 1, R, by simp [srv, hs, h1]⟩

theorem srv_mono {A : List Int} : ∀ {m m' : Nat} {s : Sh} {R : Nat × Sh}, m ≤ m' → srv A m s = some R → srv A m' s = some R
  | 0, m', s, R, h, hs => by cases hs
  | m + 1, 0, s, R, h, hs => by omega
  | m + 1, m' + 1, s, R, h, hs => by
    simp only [srv] at hs ⊢
    cases hst : stp A s with
    | mk s' o =>
      rw [hst] at hs
      cases o with
      | some i => exact hs
      | none => exact srv_mono (by omega) hs

/-- what Next asks -/
def askA (s : Sh) (cs : List Int) : List Int := asks s.q s.n cs (min s.n cs.length)
def someA (q : Int) (cs : List Int) (k : Nat) : Bool := (cs.take k).any fun c => decide (0 < max 0 (min c (50 * q)))

theorem askA_ab {s : Sh} (ok : s.Ok) (cs : List Int) : AB s (askA s cs) := by
  have n8 := ok.n8
  have q1 := ok.q1
  refine ⟨asks_len _ _ _ _ (by omega), fun i x h => ?_⟩
  unfold askA asks pad8 at h
  rw [List.getElem?_append] at h
  split at h
  · simp only [List.getElem?_map, Option.map_eq_some_iff] at h
    obtain ⟨c, _, rfl⟩ := h
    omega
  · rw [List.getElem?_replicate] at h
    split at h
    · simp at h; omega
    · cases h

theorem someA_spec {s : Sh} (ok : s.Ok) (cs : List Int) (h : someA s.q cs (min s.n cs.length) = true) : ∃ j, j < s.n ∧ 0 < (askA s cs).getD j 0 := by
  unfold someA at h
  obtain ⟨c, hc, h2⟩ := List.any_eq_true.1 h
  have h2 := of_decide_eq_true h2
  obtain ⟨j, hj, rfl⟩ := List.mem_iff_getElem.1 hc
  have hj' : j < min s.n cs.length := by simp at hj; omega
  refine ⟨j, by omega, ?_⟩
  unfold askA asks
  rw [pad8_getD, List.getD_eq_getElem?_getD, List.getElem?_map, List.getElem?_eq_getElem hj]
  exact h2

theorem someA_false {s : Sh} (cs : List Int) (h : someA s.q cs (min s.n cs.length) = false) (j : Nat) : (askA s cs).getD j 0 = 0 := by
  unfold askA asks
  rw [pad8_getD, List.getD_eq_getElem?_getD, List.getElem?_map]
  cases hg : (cs.take (min s.n cs.length))[j]? with
  | none => rfl
  | some c =>
    unfold someA at h
    have := List.any_eq_false.1 h c (List.mem_of_getElem? hg)
    simp at this ⊢
    omega

section
variable {O : CallF} (hO : OutO O)
include hO

theorem asks_loop {H1 : AH} {p pa : Nat} {s : Sh} {v : AV} {cs : List Int} (hf : Aes.Fn H1) (hpa : p < pa) (ok : s.Ok) (h1 : H1.get p = some (.cells s.cells)) (h2 : H1.get pa = some (.cells (ints (pad8 [])))) (hv : Ints H1 v cs)
    (hvp : ∀ g, v ≠ .hsl pa 0 cs.length cs.length 1 g) (K : KT Prop)
    (hK : ∀ H' (x8 x19 : AV), Ext H1 H' (· = pa) → H'.get pa = some (.cells (ints (askA s cs))) → ∀ (x4 x5 x8 x9 x10 x19 x43 x62 x69 x101 : AV), K [.ptr p 0, v, x4, x5, .ptr pa 0, .bool (someA s.q cs (min s.n cs.length)), x8, x9, x10, .int .i64 ((min s.n cs.length : Nat) : Int), .int .i64 ((min s.n cs.length : Nat) : Int), x19, x43, x62, x69, x101] H')
    (x4 x5 x8 x9 x10 x19 x43 x62 x69 x101 : AV) :
    qLoop (l27_12 K) [.ptr p 0, v, x4, x5, .ptr pa 0, .bool false, x8, x9, x10, .int .i64 ((min s.n cs.length : Nat) : Int), .int .i64 0, x19, x43, x62, x69, x101] H1 := by
  have n8 := ok.n8
  refine loop_inv (fun m fr H => ∃ (i : Nat) (x4 x5 x8 x9 x10 x19 x43 x62 x69 x101 : AV), m = 8 - i ∧ i ≤ min s.n cs.length ∧ fr = [.ptr p 0, v, x4, x5, .ptr pa 0, .bool (someA s.q cs i), x8, x9, x10, .int .i64 ((min s.n cs.length : Nat) : Int), .int .i64 (i : Int), x19, x43, x62, x69, x101] ∧
    Ext H1 H (· = pa) ∧ H.get pa = some (.cells (ints (asks s.q s.n cs i)))) ?_ (m := 8) ?_
  · rintro m fr H k ⟨i, x4, x5, x8, x9, x10, x19, x43, x62, x69, x101, rfl, hi, rfl, ext, hg⟩ hk
    by_cases hlt : i < min s.n cs.length
    · have hlt' : (i : Int) < ((min s.n cs.length : Nat) : Int) := by omega
      have hz : cs[i]? = some cs[i] := List.getElem?_eq_getElem (by omega)
      have hv' : Ints H v cs := hv.keep (fun j o hj hvj => by
        by_cases e : j = pa
        · subst e; obtain ⟨g, hg'⟩ := hvj; exact absurd hg' (hvp g)
        · exact (ext.keep j (hf.lt hj) e).trans hj)
      obtain ⟨a, a1, a2⟩ := hv'.at_ hz
      have hp : H.get p = some (.cells s.cells) := (ext.keep p (hf.lt h1) (by omega)).trans h1
      have L0 := ld hp _ _ (Sh.get_q s)
      have q1 := ok.q1; have q2 := ok.q2
      have I0 := qIaA1 pa 0 i (by omega)
      rw [Nat.zero_add] at I0
      have hal : (ints (asks s.q s.n cs i)).length = 8 := by rw [ints_len, asks_len _ _ _ _ (by omega)]
      have st := qSt_one (R := Prop) ext.fn hg i (.int .i64 (max 0 (min cs[i] (50 * s.q))))
      have hset : (ints (asks s.q s.n cs i)).set i (.int .i64 (max 0 (min cs[i] (50 * s.q)))) = ints (asks s.q s.n cs (i + 1)) := by
        rw [ints_set]
        congr 1
        have hl2 : ((cs.take i).map fun c => max 0 (min c (50 * s.q))).length = i := by simp; omega
        have := pad8_set ((cs.take i).map fun c => max 0 (min c (50 * s.q))) (max 0 (min cs[i] (50 * s.q))) (by omega)
        rw [hl2] at this
        unfold asks
        rw [this, List.take_succ_eq_append_getElem (by omega), List.map_append]
        rfl
      rw [hset] at st
      have u := Upd.set ext.fn hg (.cells (ints (asks s.q s.n cs (i + 1))))
      have eget : (asks s.q s.n cs (i + 1))[i]? = some (max 0 (min cs[i] (50 * s.q))) := by
        unfold asks
        refine pad8_get _ _ _ ?_
        rw [List.getElem?_map, List.getElem?_take, if_pos (by omega), hz]
        rfl
      have LA := ld u.at_ i _ (ints_get _ _ _ eget)
      have hsome : someA s.q cs (i + 1) = (someA s.q cs i || decide (0 < max 0 (min cs[i] (50 * s.q)))) := by
        unfold someA
        rw [List.take_succ_eq_append_getElem (by omega), List.any_append]
        simp
      have fin := fun (x4 x5 x8 x9 x10 x19 x43 x62 x69 x101 : AV) => hk (8 - (i + 1)) [.ptr p 0, v, x4, x5, .ptr pa 0, .bool (someA s.q cs (i + 1)), x8, x9, x10, .int .i64 ((min s.n cs.length : Nat) : Int), .int .i64 ((i + 1 : Nat) : Int), x19, x43, x62, x69, x101] _ (by omega) ⟨i + 1, _, _, _, _, _, _, _, _, _, _, rfl, by omega, rfl, ext.trans u.ext (fun j _ h => h), u.at_⟩
      rw [hsome] at fin
      cases hb : someA s.q cs i with
      | true =>
        rw [hb] at fin
        simp only [l27_12, r27_4, r27_5, r27_6, r27_7, r27_8, opn_z, opn_s, sel_z, sel_s, qCd_eq, qIf_true, qIf_false, qFn_eq, qBl_eq, qO_some, qRes_val, qHp_some, qPick_true, qPick_false, qG_tt, qG_ff, qG_tf, qG_ft, cellsK_some, qLd_vptr, qLdA_vptr, qFa_ptr, qFa_vptr, qNc_ptr, qNc_vptr, qNc_fn, qNot_bool, qExt_tup, qCallV_fn, qLss_int, qLeq_int, qGtr_int, qGeq_int, qEql_int, qNeq_int, qAdd_int, qSub_int, qMul_int, qConvI_int, qLenL_sl, qLenL_hsl, qLenS_str, foldO, min2_int, max2_int, qSame_refl, Nat.zero_add, List.getElem?_cons_zero, List.getElem?_cons_succ, List.nil_append, List.cons_append, List.append_nil, one_bool, one_int, one_str, one_nilp, one_ptr, one_sl, one_hsl, one_map, one_fn, List.length_cons, List.length_nil, List.set_cons_zero, List.set_cons_succ, Nat.reduceLT, Nat.reduceAdd, hlt', decide_true, a1, a2, L0, i64_in (x := 50 * s.q) (by omega), I0, st, hal, (by omega : i < 8), wrap_succ i (by omega)]
        exact fin x4 x5 (.int .i64 (i : Int)) x9 x10 (.bool true) x43 x62 x69 x101
      | false =>
        rw [hb] at fin
        simp only [l27_12, r27_4, r27_5, r27_6, r27_7, r27_8, opn_z, opn_s, sel_z, sel_s, qCd_eq, qIf_true, qIf_false, qFn_eq, qBl_eq, qO_some, qRes_val, qHp_some, qPick_true, qPick_false, qG_tt, qG_ff, qG_tf, qG_ft, cellsK_some, qLd_vptr, qLdA_vptr, qFa_ptr, qFa_vptr, qNc_ptr, qNc_vptr, qNc_fn, qNot_bool, qExt_tup, qCallV_fn, qLss_int, qLeq_int, qGtr_int, qGeq_int, qEql_int, qNeq_int, qAdd_int, qSub_int, qMul_int, qConvI_int, qLenL_sl, qLenL_hsl, qLenS_str, foldO, min2_int, max2_int, qSame_refl, Nat.zero_add, List.getElem?_cons_zero, List.getElem?_cons_succ, List.nil_append, List.cons_append, List.append_nil, one_bool, one_int, one_str, one_nilp, one_ptr, one_sl, one_hsl, one_map, one_fn, List.length_cons, List.length_nil, List.set_cons_zero, List.set_cons_succ, Nat.reduceLT, Nat.reduceAdd, hlt', decide_true, a1, a2, L0, i64_in (x := 50 * s.q) (by omega), I0, st, hal, (by omega : i < 8), LA, wrap_succ i (by omega)]
        exact fin x4 x5 (.int .i64 (i : Int)) x9 x10 (.bool true) x43 x62 x69 x101
    · have hlt' : ¬ (i : Int) < ((min s.n cs.length : Nat) : Int) := by omega
      have : i = min s.n cs.length := by omega
      subst this
      simp only [l27_12, r27_4, opn_z, opn_s, sel_z, sel_s, qCd_eq, qIf_true, qIf_false, qFn_eq, qBl_eq, qO_some, qRes_val, qHp_some, qPick_true, qPick_false, qG_tt, qG_ff, qG_tf, qG_ft, cellsK_some, qLd_vptr, qLdA_vptr, qFa_ptr, qFa_vptr, qNc_ptr, qNc_vptr, qNc_fn, qNot_bool, qExt_tup, qCallV_fn, qLss_int, qLeq_int, qGtr_int, qGeq_int, qEql_int, qNeq_int, qAdd_int, qSub_int, qMul_int, qConvI_int, qLenL_sl, qLenL_hsl, qLenS_str, foldO, min2_int, max2_int, qSame_refl, Nat.zero_add, List.getElem?_cons_zero, List.getElem?_cons_succ, List.nil_append, List.cons_append, List.append_nil, one_bool, one_int, one_str, one_nilp, one_ptr, one_sl, one_hsl, one_map, one_fn, List.length_cons, List.length_nil, List.set_cons_zero, List.set_cons_succ, Nat.reduceLT, Nat.reduceAdd, hlt', decide_false]
      exact hK H x8 x19 ext hg x4 x5 x8 x9 x10 (.bool false) x43 x62 x69 x101
  · exact ⟨0, _, _, _, _, _, _, _, _, _, _, rfl, by omega, rfl, .refl hf _, h2⟩

end
end T
set_option linter.unusedVariables false
set_option linter.unusedSimpArgs false
set_option maxRecDepth 10000
namespace T
open Go Go.Aes Go.Proofs

theorem Sh.clear {s : Sh} (ok : s.Ok) : setRange s.cells 10 z90 = some { s with Cr := pad8 [] }.cells := by
  have hl := Sh.len ok
  have e : s.cells = (.int .i64 s.q :: .int .i64 (s.n : Int) :: ints s.W) ++ (ints s.Cr ++ (ints s.Sv ++ [.int .i64 (s.pos : Int), .bool s.vis])) := rfl
  have l1 : (AV.int .i64 s.q :: AV.int .i64 (s.n : Int) :: ints s.W).length = 10 := by simp [ints_len, ok.w]
  have l2 : (ints s.Cr).length = 8 := by rw [ints_len, ok.c]
  unfold setRange
  have hb : (10 + z90.length).ble s.cells.length = true := by rw [hl]; rfl
  rw [hb]
  simp only [cond_true, Option.some.injEq]
  have d : 10 + z90.length = 10 + 8 := rfl
  rw [d, e, ← List.drop_drop, List.drop_left' l1, List.drop_left' l2, List.take_left' l1]
  have z : z90 = ints (pad8 []) := rfl
  rw [z]
  simp [Sh.cells]

theorem qSt_agg {H : AH} (hf : Aes.Fn H) {i : Nat} {cs cs' : List AV} (hg : H.get i = some (.cells cs)) (o n : Nat) (l : List AV) (hl : l.length = n) (ha : allOne l = true) (hs : setRange cs o l = some cs') (k : AV → AH → Prop) :
    qSt n (.ptr i o) (.agg l) H k = k Aes.undef (H.set i (some (.cells cs'))) := by
  unfold qSt
  have : ((AV.agg l).cells.length.beq n && allOne (AV.agg l).cells && H.okI i) = true := by
    rw [hf.okI hg]
    simp [AV.cells, hl, ha]
  simp only [this, cond_true, hg, cellsK]
  show qO (setRange cs o l) _ = _
  rw [hs]
  rfl

theorem Ints.lt {H : AH} {v : AV} {zs : List Int} (hf : Aes.Fn H) (h : Ints H v zs) (g : Bool) : v ≠ .hsl H.nx 0 zs.length zs.length 1 g := by
  rintro rfl
  rcases h with ⟨tk, h⟩ | ⟨i, g', h, h2⟩
  · cases h
  · injection h with h3
    subst h3
    have := hf.lt h2
    omega

section
variable {O : CallF} (hO : OutO O)
include hO

theorem ev_next_some {H : AH} (hf : Aes.Fn H) {p : Nat} {s : Sh} {v : AV} {cs : List Int} {b : Int} (ok : s.Ok) (hn : s.pos < s.n) (cb : CB s) (sb : SB s b) (hb : b ≤ 4000000000000000000) (h1 : H.get p = some (.cells s.cells)) (hv : Ints H v cs)
    (hs : someA s.q cs (min s.n cs.length) = true) {m : Nat} {R : Nat × Sh} (hr : srv (askA s cs) m s = some R) :
    ∃ H', evl X O 27 [.ptr p 0, v] H = some (.val (.tup [.int .i64 (R.1 : Int), .bool true]) H') ∧ Ext H H' (· = p) ∧ H'.get p = some (.cells R.2.cells) ∧ R.2.Ok ∧ R.2.pos < R.2.n ∧ CB R.2 ∧ SB R.2 (b + 50000) ∧ R.2.q = s.q ∧ R.2.n = s.n ∧ R.2.W = s.W ∧ R.1 < 8 := by
  have n1 := New.push hf (.cells z90)
  have hnew := qNew_fn (R := Prop) hf (.cells z90) .ptr
  generalize H.push (.cells z90) = H1 at n1 hnew
  have hp := hf.lt h1
  have h1' : H1.get p = some (.cells s.cells) := (n1.other p hp).trans h1
  have hv1 : Ints H1 v cs := hv.keep (fun j o hj _ => (n1.other j (hf.lt hj)).trans hj)
  have Ln := ld h1' _ _ (Sh.get_n s)
  have hmin : min (s.n : Int) (cs.length : Int) = ((min s.n cs.length : Nat) : Int) := by omega
  suffices h : c27 (evl X O) [.ptr p 0, v] H (fun r H' => r = .tup [.int .i64 (R.1 : Int), .bool true] ∧ Ext H H' (· = p) ∧ H'.get p = some (.cells R.2.cells) ∧ R.2.Ok ∧ R.2.pos < R.2.n ∧ CB R.2 ∧ SB R.2 (b + 50000) ∧ R.2.q = s.q ∧ R.2.n = s.n ∧ R.2.W = s.W ∧ R.1 < 8) by
    obtain ⟨r, H', k1, rfl, k2⟩ := of_form e27 xf27 (hO _ _ _ (by decide) (by decide)) h
    exact ⟨H', k1, k2⟩
  have hmk : Wr.mk .ptr H.nx = AV.ptr H.nx 0 := rfl
  simp only [c27, r27_0, r27_1, r27_2, r27_3, opn_z, opn_s, sel_z, sel_s, qCd_eq, qIf_true, qIf_false, qFn_eq, qBl_eq, qO_some, qRes_val, qHp_some, qPick_true, qPick_false, qG_tt, qG_ff, qG_tf, qG_ft, cellsK_some, qLd_vptr, qLdA_vptr, qFa_ptr, qFa_vptr, qNc_ptr, qNc_vptr, qNc_fn, qNot_bool, qExt_tup, qCallV_fn, qLss_int, qLeq_int, qGtr_int, qGeq_int, qEql_int, qNeq_int, qAdd_int, qSub_int, qMul_int, qConvI_int, qLenL_sl, qLenL_hsl, qLenS_str, foldO, min2_int, max2_int, qSame_refl, Nat.zero_add, List.getElem?_cons_zero, List.getElem?_cons_succ, List.nil_append, List.cons_append, List.append_nil, one_bool, one_int, one_str, one_nilp, one_ptr, one_sl, one_hsl, one_map, one_fn, List.length_cons, List.length_nil, List.set_cons_zero, List.set_cons_succ, Nat.reduceLT, Nat.reduceAdd, hnew, hmk, Ln, hv1.len, hmin]
  refine asks_loop hO n1.fn hp ok h1' n1.at_ hv1 (fun g => hv.lt hf g) _ ?_ _ _ _ _ _ _ _ _ _ _
  intro H' x8 x19 ext hg x4 x5 x8 x9 x10 x19 x43 x62 x69 x101
  rw [hs]
  simp only [r27_9, opn_z, opn_s, sel_z, sel_s, qCd_eq, qIf_true, qIf_false, qFn_eq, qBl_eq, qO_some, qRes_val, qHp_some, qPick_true, qPick_false, qG_tt, qG_ff, qG_tf, qG_ft, cellsK_some, qLd_vptr, qLdA_vptr, qFa_ptr, qFa_vptr, qNc_ptr, qNc_vptr, qNc_fn, qNot_bool, qExt_tup, qCallV_fn, qLss_int, qLeq_int, qGtr_int, qGeq_int, qEql_int, qNeq_int, qAdd_int, qSub_int, qMul_int, qConvI_int, qLenL_sl, qLenL_hsl, qLenS_str, foldO, min2_int, max2_int, qSame_refl, Nat.zero_add, List.getElem?_cons_zero, List.getElem?_cons_succ, List.nil_append, List.cons_append, List.append_nil, one_bool, one_int, one_str, one_nilp, one_ptr, one_sl, one_hsl, one_map, one_fn, List.length_cons, List.length_nil, List.set_cons_zero, List.set_cons_succ, Nat.reduceLT, Nat.reduceAdd, Bool.not_true]
  have e0 : Ext H H' (· = p) := n1.ext.trans ⟨ext.fn, ext.nx, fun j hj h => ext.keep j hj (by intro e; exact h e)⟩ (fun j hj e => by omega) |> fun h => ⟨h.fn, h.nx, fun j hj _ => h.keep j hj (by intro e; exact e)⟩
  have hp2 : H'.get p = some (.cells s.cells) := (ext.keep p (by rw [n1.nx]; omega) (by omega)).trans h1'
  exact next_loop hO (b := b) hp (Nat.le_refl _) ok hn cb sb hb (askA_ab ok cs) hp2 hg e0 hr (Q := fun r H' => r = .tup [.int .i64 (R.1 : Int), .bool true] ∧ Ext H H' (· = p) ∧ H'.get p = some (.cells R.2.cells) ∧ R.2.Ok ∧ R.2.pos < R.2.n ∧ CB R.2 ∧ SB R.2 (b + 50000) ∧ R.2.q = s.q ∧ R.2.n = s.n ∧ R.2.W = s.W ∧ R.1 < 8)
    (fun H'' q1 q2 q3 q4 q5 q6 q7 q8 q9 q10 => ⟨rfl, q1, q2, q3, q4, q5, q6, q7, q8, q9, q10⟩) _ _ _ _ _ _ _ _ _ _ _ _ _ _

theorem ev_next_none {H : AH} (hf : Aes.Fn H) {p : Nat} {s : Sh} {v : AV} {cs : List Int} (ok : s.Ok) (h1 : H.get p = some (.cells s.cells)) (hv : Ints H v cs)
    (hs : someA s.q cs (min s.n cs.length) = false) :
    ∃ H', evl X O 27 [.ptr p 0, v] H = some (.val (.tup [.int .i64 0, .bool false]) H') ∧ Ext H H' (· = p) ∧ H'.get p = some (.cells { s with Cr := pad8 [] }.cells) := by
  have n1 := New.push hf (.cells z90)
  have hnew := qNew_fn (R := Prop) hf (.cells z90) .ptr
  generalize H.push (.cells z90) = H1 at n1 hnew
  have hp := hf.lt h1
  have h1' : H1.get p = some (.cells s.cells) := (n1.other p hp).trans h1
  have hv1 : Ints H1 v cs := hv.keep (fun j o hj _ => (n1.other j (hf.lt hj)).trans hj)
  have Ln := ld h1' _ _ (Sh.get_n s)
  have hmin : min (s.n : Int) (cs.length : Int) = ((min s.n cs.length : Nat) : Int) := by omega
  suffices h : c27 (evl X O) [.ptr p 0, v] H (fun r H' => r = .tup [.int .i64 0, .bool false] ∧ Ext H H' (· = p) ∧ H'.get p = some (.cells { s with Cr := pad8 [] }.cells)) by
    obtain ⟨r, H', k1, rfl, k2⟩ := of_form e27 xf27 (hO _ _ _ (by decide) (by decide)) h
    exact ⟨H', k1, k2⟩
  have hmk : Wr.mk .ptr H.nx = AV.ptr H.nx 0 := rfl
  simp only [c27, r27_0, r27_1, r27_2, r27_3, opn_z, opn_s, sel_z, sel_s, qCd_eq, qIf_true, qIf_false, qFn_eq, qBl_eq, qO_some, qRes_val, qHp_some, qPick_true, qPick_false, qG_tt, qG_ff, qG_tf, qG_ft, cellsK_some, qLd_vptr, qLdA_vptr, qFa_ptr, qFa_vptr, qNc_ptr, qNc_vptr, qNc_fn, qNot_bool, qExt_tup, qCallV_fn, qLss_int, qLeq_int, qGtr_int, qGeq_int, qEql_int, qNeq_int, qAdd_int, qSub_int, qMul_int, qConvI_int, qLenL_sl, qLenL_hsl, qLenS_str, foldO, min2_int, max2_int, qSame_refl, Nat.zero_add, List.getElem?_cons_zero, List.getElem?_cons_succ, List.nil_append, List.cons_append, List.append_nil, one_bool, one_int, one_str, one_nilp, one_ptr, one_sl, one_hsl, one_map, one_fn, List.length_cons, List.length_nil, List.set_cons_zero, List.set_cons_succ, Nat.reduceLT, Nat.reduceAdd, hnew, hmk, Ln, hv1.len, hmin]
  refine asks_loop hO n1.fn hp ok h1' n1.at_ hv1 (fun g => hv.lt hf g) _ ?_ _ _ _ _ _ _ _ _ _ _
  intro H' x8 x19 ext hg x4 x5 x8 x9 x10 x19 x43 x62 x69 x101
  rw [hs]
  have hp2 : H'.get p = some (.cells s.cells) := (ext.keep p (by rw [n1.nx]; omega) (by omega)).trans h1'
  have hst := qSt_agg ext.fn hp2 10 8 z90 rfl rfl (Sh.clear ok)
  have u := Upd.set ext.fn hp2 (.cells { s with Cr := pad8 [] }.cells)
  have hbl : fillP z90 [] = some z90 := rfl
  simp only [r27_9, r27_10, r27_11, opn_z, opn_s, sel_z, sel_s, qCd_eq, qIf_true, qIf_false, qFn_eq, qBl_eq, qO_some, qRes_val, qHp_some, qPick_true, qPick_false, qG_tt, qG_ff, qG_tf, qG_ft, cellsK_some, qLd_vptr, qLdA_vptr, qFa_ptr, qFa_vptr, qNc_ptr, qNc_vptr, qNc_fn, qNot_bool, qExt_tup, qCallV_fn, qLss_int, qLeq_int, qGtr_int, qGeq_int, qEql_int, qNeq_int, qAdd_int, qSub_int, qMul_int, qConvI_int, qLenL_sl, qLenL_hsl, qLenS_str, foldO, min2_int, max2_int, qSame_refl, Nat.zero_add, List.getElem?_cons_zero, List.getElem?_cons_succ, List.nil_append, List.cons_append, List.append_nil, one_bool, one_int, one_str, one_nilp, one_ptr, one_sl, one_hsl, one_map, one_fn, List.length_cons, List.length_nil, List.set_cons_zero, List.set_cons_succ, Nat.reduceLT, Nat.reduceAdd, Bool.not_false, qBld, hbl, hst]
  have e0 : Ext H H' (· = p) := n1.ext.trans ⟨ext.fn, ext.nx, fun j hj h => ext.keep j hj (by intro e; exact h e)⟩ (fun j hj e => by omega) |> fun h => ⟨h.fn, h.nx, fun j hj _ => h.keep j hj (by intro e; exact e)⟩
  exact ⟨trivial, e0.trans u.ext (fun j _ h => h), u.at_⟩

end
end T
set_option linter.unusedVariables false
set_option linter.unusedSimpArgs false
set_option maxRecDepth 10000
namespace T
open Go Go.Aes Go.Proofs

theorem eq_nil37 (i o : Nat) (k : AV → Prop) : qEql X 37 (.ptr i o) .nilp k = k (.bool false) := rfl
theorem ne_nil37 (i o : Nat) (k : AV → Prop) : qNeq X 37 (.ptr i o) .nilp k = k (.bool true) := rfl

theorem pad0_get {i : Nat} {x : Int} (h : (pad8 [])[i]? = some x) : x = 0 := by
  unfold pad8 at h
  simp only [List.nil_append, List.length_nil] at h
  rw [List.getElem?_replicate] at h
  split at h
  · simpa using h.symm
  · cases h
theorem newSh_cb (q : Int) (ws : List Int) (k : Nat) : CB (newSh q ws k) := fun i x h => by have := pad0_get h; omega
theorem newSh_sb (q : Int) (ws : List Int) (k : Nat) : SB (newSh q ws k) 0 := fun i x h => by have := pad0_get h; omega

def stA : Nat → Sh
  | 0 => newSh 1 [1, 2] 2
  | i + 1 => match srv [1, 1, 0, 0, 0, 0, 0, 0] 10 (stA i) with
    | some R => R.2
    | none => stA i

theorem Ext.weak {H H' : AH} {P Q : Nat → Prop} (h : Ext H H' P) (hq : ∀ j, j < H.nx → P j → Q j) : Ext H H' Q := ⟨h.fn, h.nx, fun j hj hn => h.keep j hj (fun p => hn (hq j hj p))⟩

section
variable {O : CallF} (hO : OutO O)
include hO

theorem ev_sawake {H : AH} (hf : Aes.Fn H) : ∃ H', evl X O 24 [] H = some (.val (.bool true) H') ∧ Ext H H' (fun _ => False) := by
  suffices h : c24 (evl X O) [] H (fun v H' => v = .bool true ∧ Ext H H' (fun _ => False)) by
    obtain ⟨v, H', h1, rfl, h2⟩ := of_form e24 xf24 (hO _ _ _ (by decide) (by decide)) h
    exact ⟨H', h1, h2⟩
  have hw : ∀ k : AV → Prop, qRows z3 2 [(0, .int .i64 1), (1, .int .i64 2)] k = k (.sl (intRows .i64 [1, 2]) .full) := fun k => rfl
  have hc : ∀ k : AV → Prop, qRows z3 2 [(0, .int .i64 1), (1, .int .i64 1)] k = k (.sl (intRows .i64 [1, 1]) .full) := fun k => rfl
  obtain ⟨H1, a1, a2⟩ := ev_snew hO hf 1 (ws := [1, 2]) (.inl ⟨.full, rfl⟩) (by decide)
  have hb : fillP z89 [(0, 1, .int .i64 0), (1, 1, .int .i64 1), (2, 1, .int .i64 1), (3, 1, .int .i64 0), (4, 1, .int .i64 1), (5, 1, .int .i64 1)] = some (ints [0, 1, 1, 0, 1, 1]) := rfl
  have n1 := New.push a2.fn (.cells z89)
  have hnew := qNew_fn (R := Prop) a2.fn (.cells z89) .ptr
  generalize H1.push (.cells z89) = H2 at n1 hnew
  have hst := qSt_agg n1.fn n1.at_ 0 6 (ints [0, 1, 1, 0, 1, 1]) rfl rfl (cs' := ints [0, 1, 1, 0, 1, 1]) rfl
  have u := Upd.set n1.fn n1.at_ (.cells (ints [0, 1, 1, 0, 1, 1]))
  generalize H2.set H1.nx (some (.cells (ints [0, 1, 1, 0, 1, 1]))) = H3 at hst u
  have n2 := n1.upd u
  have e1 : H1.nx = H.nx + 1 := a2.nx
  have hmk : Wr.mk .ptr H1.nx = AV.ptr H1.nx 0 := rfl
  simp only [c24, r24_0, r24_1, r24_2, r24_4, r24_5, opn_z, opn_s, sel_z, sel_s, qCd_eq, qIf_true, qIf_false, qFn_eq, qBl_eq, qO_some, qRes_val, qHp_some, qPick_true, qPick_false, qG_tt, qG_ff, qG_tf, qG_ft, cellsK_some, qLd_vptr, qLdA_vptr, qFa_ptr, qFa_vptr, qNc_ptr, qNc_vptr, qNc_fn, qNot_bool, qExt_tup, qCallV_fn, qLss_int, qLeq_int, qGtr_int, qGeq_int, qEql_int, qNeq_int, qAdd_int, qSub_int, qMul_int, qConvI_int, qLenL_sl, qLenL_hsl, qLenS_str, foldO, min2_int, max2_int, qSame_refl, Nat.zero_add, List.getElem?_cons_zero, List.getElem?_cons_succ, List.nil_append, List.cons_append, List.append_nil, one_bool, one_int, one_str, one_nilp, one_ptr, one_sl, one_hsl, one_map, one_fn, List.length_cons, List.length_nil, List.set_cons_zero, List.set_cons_succ, Nat.reduceLT, Nat.reduceAdd, hw, a1, eq_nil37, qBld, hb, hnew, hmk, hst]
  refine loop_inv (fun m fr H' => ∃ (i : Nat) (x0 x4 x5 x9 x12 x29 : AV), m = 6 - i ∧ i ≤ 6 ∧ fr = [x0, .ptr H.nx 0, .ptr H1.nx 0, .int .i64 (i : Int), x4, x5, x9, x12, x29] ∧ Ext H H' (fun _ => False) ∧ H'.get H.nx = some (.cells (stA i).cells) ∧ (stA i).Ok ∧ (stA i).pos < (stA i).n ∧ CB (stA i) ∧ SB (stA i) (50000 * i) ∧
    H'.get H1.nx = some (.cells (ints [0, 1, 1, 0, 1, 1]))) ?_ (m := 6) ?_
  · rintro m fr H' k ⟨i, x0, x4, x5, x9, x12, x29, rfl, hi, rfl, ext, hg, ok, hn, cb, sb, hw'⟩ hk
    by_cases h6 : i < 6
    · have h6' : (i : Int) < 6 := by omega
      have hstep : someA (stA i).q [1, 1] (min (stA i).n 2) = true ∧ srv (askA (stA i) [1, 1]) 10 (stA i) = some (([0, 1, 1, 0, 1, 1] : List Nat).getD i 0, stA (i + 1)) := by
        have : i = 0 ∨ i = 1 ∨ i = 2 ∨ i = 3 ∨ i = 4 ∨ i = 5 := by omega
        rcases this with rfl | rfl | rfl | rfl | rfl | rfl <;> exact ⟨rfl, rfl⟩
      obtain ⟨H4, b1, b2, b3, b4, b5, b6, b7, b8, b9, b10, b11⟩ := ev_next_some hO ext.fn (v := .sl (intRows .i64 [1, 1]) .full) (cs := [1, 1]) ok hn cb sb (by omega) hg (.inl ⟨.full, rfl⟩) hstep.1 hstep.2
      have hlt := ext.fn.lt hg
      have e4 : Ext H H4 (fun _ => False) := ext.trans b2 (fun j hj e => by omega)
      have hw4 : H4.get H1.nx = some (.cells (ints [0, 1, 1, 0, 1, 1])) := (b2.keep H1.nx (ext.fn.lt hw') (by omega)).trans hw'
      have hwant : (ints [0, 1, 1, 0, 1, 1])[i * 1]? = some (.int .i64 ((([0, 1, 1, 0, 1, 1] : List Nat).getD i 0 : Nat) : Int)) := by
        have : i = 0 ∨ i = 1 ∨ i = 2 ∨ i = 3 ∨ i = 4 ∨ i = 5 := by omega
        rcases this with rfl | rfl | rfl | rfl | rfl | rfl <;> rfl
      have Lw := ld hw4 _ _ hwant
      have I6 := fun k => qIaA_ptr (R := Prop) .i64 k 6 1 H1.nx 0 i h6
      generalize (([0, 1, 1, 0, 1, 1] : List Nat).getD i 0 : Nat) = who at *
      simp only [l24_5, r24_6, r24_7, r24_8, r24_9, opn_z, opn_s, sel_z, sel_s, qCd_eq, qIf_true, qIf_false, qFn_eq, qBl_eq, qO_some, qRes_val, qHp_some, qPick_true, qPick_false, qG_tt, qG_ff, qG_tf, qG_ft, cellsK_some, qLd_vptr, qLdA_vptr, qFa_ptr, qFa_vptr, qNc_ptr, qNc_vptr, qNc_fn, qNot_bool, qExt_tup, qCallV_fn, qLss_int, qLeq_int, qGtr_int, qGeq_int, qEql_int, qNeq_int, qAdd_int, qSub_int, qMul_int, qConvI_int, qLenL_sl, qLenL_hsl, qLenS_str, foldO, min2_int, max2_int, qSame_refl, Nat.zero_add, List.getElem?_cons_zero, List.getElem?_cons_succ, List.nil_append, List.cons_append, List.append_nil, one_bool, one_int, one_str, one_nilp, one_ptr, one_sl, one_hsl, one_map, one_fn, List.length_cons, List.length_nil, List.set_cons_zero, List.set_cons_succ, Nat.reduceLT, Nat.reduceAdd, h6', decide_true, hc, b1, Bool.not_true, I6, Lw, beq_self_eq_true, wrap_succ i (by omega)]
      exact hk (6 - (i + 1)) _ _ (by omega) ⟨i + 1, _, _, _, _, _, _, rfl, by omega, rfl, e4, b3, b4, b5, b6, fun j x h => by have := b7 j x h; omega, hw4⟩
    · have h6' : ¬ (i : Int) < 6 := by omega
      have : i = 6 := by omega
      subst this
      obtain ⟨tk1, H4, c1, c2⟩ := ev_served hO ext.fn ok hg
      have hg4 := (c2.keep H.nx (ext.fn.lt hg) (fun h => h)).trans hg
      obtain ⟨tk2, H5, d1, d2⟩ := ev_served hO c2.fn ok hg4
      have hg5 := (d2.keep H.nx (c2.fn.lt hg4) (fun h => h)).trans hg4
      obtain ⟨tk3, H6, f1, f2⟩ := ev_credit hO d2.fn ok hg5
      have hsv : (stA 6).Sv.take (stA 6).n = [2, 4] := rfl
      have hcl : ((intRows .i64 ((stA 6).Cr.take (stA 6).n)).length : Int) = 2 := rfl
      rw [hsv] at c1 d1
      have hia := qIa_ints (zs := [2, 4]) (tk := tk2) (i := 1) (z := 4) rfl
      have hl2 : ((intRows .i64 [2, 4]).length : Int) = 2 := rfl
      have h11 : ((1 : Nat) : Int) = 1 := rfl
      rw [h11] at hia
      simp only [l24_5, r24_6, r24_11, opn_z, opn_s, sel_z, sel_s, qCd_eq, qIf_true, qIf_false, qFn_eq, qBl_eq, qO_some, qRes_val, qHp_some, qPick_true, qPick_false, qG_tt, qG_ff, qG_tf, qG_ft, cellsK_some, qLd_vptr, qLdA_vptr, qFa_ptr, qFa_vptr, qNc_ptr, qNc_vptr, qNc_fn, qNot_bool, qExt_tup, qCallV_fn, qLss_int, qLeq_int, qGtr_int, qGeq_int, qEql_int, qNeq_int, qAdd_int, qSub_int, qMul_int, qConvI_int, qLenL_sl, qLenL_hsl, qLenS_str, foldO, min2_int, max2_int, qSame_refl, Nat.zero_add, List.getElem?_cons_zero, List.getElem?_cons_succ, List.nil_append, List.cons_append, List.append_nil, one_bool, one_int, one_str, one_nilp, one_ptr, one_sl, one_hsl, one_map, one_fn, List.length_cons, List.length_nil, List.set_cons_zero, List.set_cons_succ, Nat.reduceLT, Nat.reduceAdd, h6', decide_false, c1, hl2, beq_self_eq_true, d1, hia, f1, hcl]
      exact ⟨trivial, ((ext.trans c2 (fun _ _ h => h)).trans d2 (fun _ _ h => h)).trans f2 (fun _ _ h => h)⟩
  · have e3 : Ext H H3 (fun _ => False) := a2.ext.trans n2.ext (fun _ _ h => h)
    refine ⟨0, _, _, _, _, _, _, rfl, by omega, rfl, e3, ?_, newSh_full 1 [1, 2] 2 (by decide) (by decide), by decide, newSh_cb _ _ _, fun j x h => by have := newSh_sb _ _ _ j x h; omega, n2.at_⟩
    rw [n2.other H.nx (by omega)]
    exact a2.at_

end
end T
set_option linter.unusedVariables false
set_option linter.unusedSimpArgs false
set_option maxRecDepth 10000
namespace T
open Go Go.Aes Go.Proofs

/-! ### a slice of one's own, appended to -/
def Own (H : AH) (v : AV) (zs : List Int) : Prop := (v = .sl [] .nil ∧ zs = []) ∨ (zs ≠ [] ∧ ∃ t, v = .sl (intRows .i64 zs) (.own t) ∧ H.get t = some .tok)

def tokOf (v : AV) (j : Nat) : Prop := ∃ rows, v = .sl rows (.own j)

theorem Own.ints {H : AH} {v : AV} {zs : List Int} (h : Own H v zs) (H' : AH) : Ints H' v zs := by
  rcases h with ⟨rfl, rfl⟩ | ⟨_, t, rfl, _⟩
  · exact .inl ⟨.nil, rfl⟩
  · exact .inl ⟨_, rfl⟩

theorem Own.keep {H H' : AH} {v : AV} {zs : List Int} {P : Nat → Prop} (h : Own H v zs) (hf : Aes.Fn H) (e : Ext H H' P) (hp : ∀ j, tokOf v j → ¬ P j) : Own H' v zs := by
  rcases h with h | ⟨h1, t, rfl, h2⟩
  · exact .inl h
  · exact .inr ⟨h1, t, rfl, (e.keep t (hf.lt h2) (hp t ⟨_, rfl⟩)).trans h2⟩

theorem rows1 (z : Int) (k : AV → Prop) : qRows z3 1 [(0, .int .i64 z)] k = k (.sl [[.int .i64 z]] .full) := rfl

theorem app_own {H : AH} (hf : Aes.Fn H) {v : AV} {zs : List Int} (h : Own H v zs) (hl : zs.length < 1000000000) (z : Int) :
    ∃ v' H', (∀ k : AV → AH → Prop, qApp 1 8 v (.sl [[.int .i64 z]] .full) false H k = k v' H') ∧ Own H' v' (zs ++ [z]) ∧ Ext H H' (tokOf v) ∧ tokOf v' H.nx ∧ ∀ j, tokOf v' j → j = H.nx := by
  have hr : readRows 1 (.sl [[.int .i64 z]] .full) H = some [[.int .i64 z]] := rfl
  rcases h with ⟨rfl, rfl⟩ | ⟨h1, t, rfl, h2⟩
  · refine ⟨.sl [[.int .i64 z]] (.own H.nx), H.push .tok, fun k => ?_, .inr ⟨by simp, H.nx, rfl, by rw [hf.get_push]; simp⟩, (New.push hf .tok).ext.weak (fun _ _ h => h.elim), ⟨_, rfl⟩, fun j ⟨r, hj⟩ => by injection hj with _ hj; injection hj with hj; exact hj.symm⟩
    have : app 1 8 (.sl [] .nil) (.sl [[.int .i64 z]] .full) false H = some (.sl [[.int .i64 z]] (.own H.nx), H.push .tok) := by
      unfold app
      rw [hr]
      simp [hf.new, most]
      rfl
    unfold qApp
    rw [this]
    rfl
  · have hlt := hf.lt h2
    have hf2 : Aes.Fn (H.set t none) := hf.set t none
    have hnx : (H.set t none).nx = H.nx := AH.nx_set _ _ _
    refine ⟨.sl (intRows .i64 (zs ++ [z])) (.own H.nx), (H.set t none).push .tok, fun k => ?_, .inr ⟨by simp, H.nx, rfl, by rw [hf2.get_push, hnx]; simp⟩, ⟨hf2.push _, by rw [hf2.nx_push, hnx]; omega, fun j hj hn => ?_⟩, ⟨_, rfl⟩, fun j ⟨r, hj⟩ => by injection hj with _ hj; injection hj with hj; exact hj.symm⟩
    · have hb : (((intRows .i64 zs).length + 1) * (8 + 1)).blt most = true := by
        rw [Nat.blt_eq, intRows_len]; unfold most; omega
      have hall : (intRows .i64 zs).all (fun r => r.length.beq 1) = true := by simp [intRows]
      have hne : (intRows .i64 zs).isEmpty = false := by cases zs <;> simp_all [intRows]
      have : app 1 8 (.sl (intRows .i64 zs) (.own t)) (.sl [[.int .i64 z]] .full) false H = some (.sl (intRows .i64 (zs ++ [z])) (.own H.nx), (H.set t none).push .tok) := by
        unfold app
        rw [hr]
        simp only [List.length_cons, List.length_nil, Nat.zero_add, hb, hall, Bool.not_true, Bool.or_false, h2, hf.okI h2, hne]
        rw [hf2.new, hnx]
        simp [allOne, one, intRows]
        rfl
      unfold qApp
      rw [this]
      rfl
    · rw [hf2.get_push, hnx, if_neg (by omega), hf.get_set hlt, if_neg (fun e => hn ⟨_, by rw [e]⟩)]

/-- weights by numbers -/
def wts (ws : List Int) (K : Int) (k : Nat) : List Int := (ws.take k).map fun x => 1 + x % K
theorem wts_len (ws : List Int) (K : Int) (k : Nat) (h : k ≤ ws.length) : (wts ws K k).length = k := by simp [wts]; omega
theorem wts_succ (ws : List Int) (K : Int) (k : Nat) (x : Int) (h : ws[k]? = some x) : wts ws K (k + 1) = wts ws K k ++ [1 + x % K] := by
  have hk := (List.getElem?_eq_some_iff.1 h).1
  have hx := (List.getElem?_eq_some_iff.1 h).2
  unfold wts
  rw [List.take_succ_eq_append_getElem hk, List.map_append, hx]
  rfl

end T
set_option linter.unusedVariables false
set_option linter.unusedSimpArgs false
set_option maxRecDepth 10000
namespace T
open Go Go.Aes Go.Proofs

theorem mkS {H : AH} (hf : Aes.Fn H) (n : Nat) (hn : n < 1000000) (k : AV → AH → Prop) : qMkS z3 1 8 (.int .i64 (n : Int)) (.int .i64 (n : Int)) H k = k (.hsl H.nx 0 n n 1 true) (H.push (.cells (ints (List.replicate n 0)))) := by
  have ha : asN (.int .i64 (n : Int)) = some n := by simp [asN]
  have hb : (n * (8 + 1)).blt most = true := by rw [Nat.blt_eq]; unfold most; omega
  have hc : (List.replicate n z3).flatten = ints (List.replicate n 0) := by
    induction n with
    | zero => rfl
    | succ n ih =>
      rw [List.replicate_succ, List.flatten_cons, ih (by omega) (by simp [asN]) (by rw [Nat.blt_eq]; unfold most; omega)]
      rfl
  unfold qMkS
  rw [ha, qO_some, qO_some, hb, hc]
  simp only [Nat.beq_refl, Bool.true_and]
  exact qNew_fn hf _ _ _

theorem qIa_h (i n c j : Nat) (g : Bool) (h : j < n) (k : AV → Prop) : qIa 1 (.hsl i 0 n c 1 g) (.int .i64 (j : Int)) k = k (.ptr i j) := by
  rw [qIa_hsl (R := Prop) .i64 k 1 i 0 n c g j h]
  simp

theorem qIa_bools {bs : List Bool} {tk : Tk} {i : Nat} {b : Bool} (h : bs[i]? = some b) (k : AV → Prop) : qIa 1 (.sl (boolRows bs) tk) (.int .i64 (i : Int)) k = k (.vptr [.bool b] 0) :=
  qIa_sl _ _ 1 _ _ i _ (by simp [boolRows, h]) rfl
theorem boolRows_len (bs : List Bool) : (boolRows bs).length = bs.length := by simp [boolRows]

/-! ### who is served asks something -/
theorem stp_who {A : List Int} {s : Sh} (hp : s.pos < s.n) (hs : s.n ≤ s.Sv.length) (P : ∀ i, A.getD i 0 = 0 → s.Sv.getD i 0 = 0) :
    (stp A s).1.pos < s.n ∧ (stp A s).1.n = s.n ∧ (stp A s).1.Sv.length = s.Sv.length ∧ (∀ i, A.getD i 0 = 0 → (stp A s).1.Sv.getD i 0 = 0) ∧ ∀ i, (stp A s).2 = some i → i < s.n ∧ A.getD i 0 ≠ 0 := by
  have hmod : (s.pos + 1) % s.n < s.n := Nat.mod_lt _ (by omega)
  unfold stp
  simp only []
  generalize (if s.vis = true then s.Cr.getD s.pos 0 else s.Cr.getD s.pos 0 + s.q * s.W.getD s.pos 0) = c
  by_cases h0 : A.getD s.pos 0 = 0
  · simp only [if_pos h0]
    exact ⟨hmod, trivial, trivial, P, fun i h => by cases h⟩
  · simp only [if_neg h0]
    by_cases hle : A.getD s.pos 0 ≤ c
    · simp only [if_pos hle]
      refine ⟨hp, trivial, by simp, fun i hi => ?_, fun i h => ?_⟩
      · rw [getD_set_ne (fun e => h0 (by rw [e]; exact hi))]
        exact P i hi
      · injection h with h; subst h; exact ⟨hp, h0⟩
    · simp only [if_neg hle]
      exact ⟨hmod, trivial, trivial, P, fun i h => by cases h⟩

theorem srv_who {A : List Int} : ∀ {m : Nat} {s : Sh} {R : Nat × Sh}, srv A m s = some R → s.pos < s.n → s.n ≤ s.Sv.length → (∀ i, A.getD i 0 = 0 → s.Sv.getD i 0 = 0) → R.1 < s.n ∧ A.getD R.1 0 ≠ 0 ∧ ∀ i, A.getD i 0 = 0 → R.2.Sv.getD i 0 = 0
  | 0, s, R, h, _, _, _ => by cases h
  | m + 1, s, R, h, hp, hs, P => by
    obtain ⟨h1, h2, h3, h4, h5⟩ := stp_who hp hs P
    simp only [srv] at h
    cases hst : stp A s with
    | mk s' o =>
      rw [hst] at h h1 h2 h3 h4 h5
      cases o with
      | some i =>
        simp only [Option.some.injEq] at h
        subst h
        obtain ⟨a, b⟩ := h5 i rfl
        exact ⟨a, b, h4⟩
      | none =>
        simp only at h h1 h2 h3 h4
        have := srv_who h (by rw [h2]; exact h1) (by rw [h2, h3]; exact hs) h4
        rw [h2] at this
        exact this

def csL (n : Nat) (has : List Bool) (e : Nat) : List Int := (List.range n).map fun j => if j < e ∧ has.getD j false = true then 7 else 0
theorem csL_len (n : Nat) (has : List Bool) (e : Nat) : (csL n has e).length = n := by simp [csL]
theorem csL_get (n : Nat) (has : List Bool) (e j : Nat) (h : j < n) : (csL n has e)[j]? = some (if j < e ∧ has.getD j false = true then 7 else 0) := by
  unfold csL
  rw [List.getElem?_map, List.getElem?_range h]
  rfl
theorem csL_zero (n : Nat) (has : List Bool) : csL n has 0 = List.replicate n 0 := by
  apply List.ext_getElem?
  intro j
  by_cases h : j < n
  · rw [csL_get _ _ _ _ h, List.getElem?_replicate, if_pos h]
    simp
  · rw [List.getElem?_eq_none (by rw [csL_len]; omega), List.getElem?_eq_none (by simp; omega)]
theorem csL_set (n : Nat) (has : List Bool) (e : Nat) (h : e < n) (hb : has.getD e false = true) : (csL n has e).set e 7 = csL n has (e + 1) := by
  apply List.ext_getElem?
  intro j
  rw [List.getElem?_set]
  by_cases hj : j < n
  · by_cases e1 : e = j
    · subst e1
      rw [if_pos rfl, if_pos (by rw [csL_len]; exact h), csL_get _ _ _ _ hj, if_pos ⟨by omega, hb⟩]
    · rw [if_neg e1, csL_get _ _ _ _ hj, csL_get _ _ _ _ hj]
      have : (j < e + 1) ↔ (j < e) := by omega
      simp only [this]
  · rw [if_neg (by omega), List.getElem?_eq_none (by rw [csL_len]; omega), List.getElem?_eq_none (by rw [csL_len]; omega)]
theorem csL_skip (n : Nat) (has : List Bool) (e : Nat) (hb : has.getD e false = false) : csL n has e = csL n has (e + 1) := by
  unfold csL
  congr 1
  funext j
  by_cases e1 : j = e
  · subst e1
    rw [if_neg (fun h => by omega), if_neg (fun h => by rw [hb] at h; exact absurd h.2 (by decide))]
  · have : (j < e + 1) ↔ (j < e) := by omega
    simp only [this]

theorem csL_some (n : Nat) (has : List Bool) (e : Nat) (he : e ≤ n) : someA 60 (csL n has e) (min n (csL n has e).length) = (List.range e).any fun j => has.getD j false := by
  rw [csL_len, Nat.min_self]
  unfold someA
  rw [List.take_of_length_le (by rw [csL_len]; exact Nat.le_refl _)]
  rw [Bool.eq_iff_iff, List.any_eq_true, List.any_eq_true]
  constructor
  · rintro ⟨c, hc, h⟩
    unfold csL at hc
    obtain ⟨j, hj, rfl⟩ := List.mem_map.1 hc
    have h := of_decide_eq_true h
    by_cases hh : j < e ∧ has.getD j false = true
    · exact ⟨j, List.mem_range.2 hh.1, hh.2⟩
    · rw [if_neg hh] at h; exact absurd h (by decide)
  · rintro ⟨j, hj, h⟩
    have hj := List.mem_range.1 hj
    refine ⟨7, ?_, by decide⟩
    unfold csL
    exact List.mem_map.2 ⟨j, List.mem_range.2 (by omega), by rw [if_pos ⟨hj, h⟩]⟩

theorem askA_zero {s : Sh} {cs : List Int} {j : Nat} (hj : j < cs.length) (h : cs.getD j 0 = 0) : (askA s cs).getD j 0 = 0 := by
  unfold askA asks
  rw [pad8_getD, List.getD_eq_getElem?_getD, List.getElem?_map, List.getElem?_take]
  split
  · have := getD_some hj
    rw [h] at this
    rw [this]
    simp
    omega
  · rfl

end T
set_option linter.unusedVariables false
set_option linter.unusedSimpArgs false
set_option maxRecDepth 10000
namespace T
open Go Go.Aes Go.Proofs

theorem neB2 (a b : Bool) (k : AV → Prop) : qNeq X 4 (.bool a) (.bool b) k = k (.bool (a != b)) := by cases a <;> cases b <;> rfl

theorem qG_u (w : Bool) (A : (AV → AH → Prop) → Prop) (H : AH) (k : AV → AH → Prop) : qG Aes.undef w A H k = k Aes.undef H := by cases w <;> rfl

section
variable {O : CallF} (hO : OutO O)
include hO

theorem idle_w {ws : List Int} {tk1 : Tk} {S1 S2 : AV} (K : KT Prop)
    (hK : ∀ (v : AV) (H' : AH), Aes.Fn H' → Own H' v (wts ws 6 (min ws.length 8)) → ∀ (x6 x8 x9 x10 x11 x12 x13 x14 x15 x16 x17 x19 x27 x47 x65 x71 x78 x109 x115 x136 x140 x141 x142 x143 x147 : AV), K [.sl (intRows .i64 ws) tk1, S1, S2, x6, v, x8, x9, x10, x11, x12, x13, x14, x15, x16, x17, x19, x27, x47, x65, x71, x78, x109, x115, x136, x140, x141, x142, x143, x147] H')
    {H : AH} (hf : Aes.Fn H) (x6 x9 x10 x11 x12 x13 x14 x15 x16 x17 x19 x27 x47 x65 x71 x78 x109 x115 x136 x140 x141 x142 x143 x147 : AV) :
    qLoop (l10_25 (evl X O) K) [.sl (intRows .i64 ws) tk1, S1, S2, x6, .sl [] .nil, .int .i64 0, x9, x10, x11, x12, x13, x14, x15, x16, x17, x19, x27, x47, x65, x71, x78, x109, x115, x136, x140, x141, x142, x143, x147] H := by
  refine loop_inv (fun m fr H => ∃ (i : Nat) (v : AV) (x6 x9 x10 x11 x12 x13 x14 x15 x16 x17 x19 x27 x47 x65 x71 x78 x109 x115 x136 x140 x141 x142 x143 x147 : AV), m = 8 - i ∧ i ≤ min ws.length 8 ∧ fr = [.sl (intRows .i64 ws) tk1, S1, S2, x6, v, .int .i64 (i : Int), x9, x10, x11, x12, x13, x14, x15, x16, x17, x19, x27, x47, x65, x71, x78, x109, x115, x136, x140, x141, x142, x143, x147] ∧ Aes.Fn H ∧ Own H v (wts ws 6 i)) ?_ (m := 8) ?_
  · rintro m fr H k ⟨i, v, x6, x9, x10, x11, x12, x13, x14, x15, x16, x17, x19, x27, x47, x65, x71, x78, x109, x115, x136, x140, x141, x142, x143, x147, rfl, hi, rfl, hf, ow⟩ hk
    by_cases h1 : i < ws.length
    · have h1' : (i : Int) < ((intRows .i64 ws).length : Int) := by rw [intRows_len]; omega
      by_cases h2 : i < 8
      · have h2' : (i : Int) < 8 := by omega
        have hz : ws[i]? = some ws[i] := List.getElem?_eq_getElem h1
        have hia := qIa_ints (tk := tk1) hz
        have p0 := Int.emod_nonneg ws[i] (by decide : (6 : Int) ≠ 0)
        have p1 := Int.emod_lt_of_pos ws[i] (by decide : (0 : Int) < 6)
        have pl := fun H => ev_place hO ws[i] 6 (by decide) (by decide) H
        obtain ⟨v', H', a1, a2, a3, _, _⟩ := app_own hf ow (by rw [wts_len _ _ _ (by omega)]; omega) (1 + ws[i] % 6)
        rw [← wts_succ _ _ _ _ hz] at a2
        simp only [l10_25, r10_3, r10_4, r10_5, opn_z, opn_s, sel_z, sel_s, qCd_eq, qIf_true, qIf_false, qFn_eq, qBl_eq, qO_some, qRes_val, qHp_some, qPick_true, qPick_false, qG_tt, qG_ff, qG_tf, qG_ft, cellsK_some, qLd_vptr, qLdA_vptr, qFa_ptr, qFa_vptr, qNc_ptr, qNc_vptr, qNc_fn, qNot_bool, qExt_tup, qCallV_fn, qLss_int, qLeq_int, qGtr_int, qGeq_int, qEql_int, qNeq_int, qAdd_int, qSub_int, qMul_int, qConvI_int, qLenL_sl, qLenL_hsl, qLenS_str, foldO, min2_int, max2_int, qSame_refl, Nat.zero_add, List.getElem?_cons_zero, List.getElem?_cons_succ, List.nil_append, List.cons_append, List.append_nil, one_bool, one_int, one_str, one_nilp, one_ptr, one_sl, one_hsl, one_map, one_fn, List.length_cons, List.length_nil, List.set_cons_zero, List.set_cons_succ, Nat.reduceLT, Nat.reduceAdd, h1', h2', decide_true, hia, pl, i64_in (x := 1 + ws[i] % 6) (by omega), rows1, a1, wrap_succ i (by omega)]
        exact hk (8 - (i + 1)) _ _ (by omega) ⟨i + 1, v', _, _, _, _, _, _, _, _, _, _, _, _, _, _, _, _, _, _, _, _, _, _, _, _, rfl, by omega, rfl, a3.fn, a2⟩
      · have h2' : ¬ (i : Int) < 8 := by omega
        have : i = min ws.length 8 := by omega
        subst this
        simp only [l10_25, r10_3, opn_z, opn_s, sel_z, sel_s, qCd_eq, qIf_true, qIf_false, qFn_eq, qBl_eq, qO_some, qRes_val, qHp_some, qPick_true, qPick_false, qG_tt, qG_ff, qG_tf, qG_ft, cellsK_some, qLd_vptr, qLdA_vptr, qFa_ptr, qFa_vptr, qNc_ptr, qNc_vptr, qNc_fn, qNot_bool, qExt_tup, qCallV_fn, qLss_int, qLeq_int, qGtr_int, qGeq_int, qEql_int, qNeq_int, qAdd_int, qSub_int, qMul_int, qConvI_int, qLenL_sl, qLenL_hsl, qLenS_str, foldO, min2_int, max2_int, qSame_refl, Nat.zero_add, List.getElem?_cons_zero, List.getElem?_cons_succ, List.nil_append, List.cons_append, List.append_nil, one_bool, one_int, one_str, one_nilp, one_ptr, one_sl, one_hsl, one_map, one_fn, List.length_cons, List.length_nil, List.set_cons_zero, List.set_cons_succ, Nat.reduceLT, Nat.reduceAdd, h1', h2', decide_true, decide_false]
        exact hK v H hf ow x6 _ x9 x10 x11 x12 x13 x14 x15 x16 x17 x19 _ x47 x65 x71 x78 x109 x115 x136 x140 x141 x142 x143 x147
    · have h1' : ¬ (i : Int) < ((intRows .i64 ws).length : Int) := by rw [intRows_len]; omega
      have : i = min ws.length 8 := by omega
      subst this
      simp only [l10_25, r10_3, opn_z, opn_s, sel_z, sel_s, qCd_eq, qIf_true, qIf_false, qFn_eq, qBl_eq, qO_some, qRes_val, qHp_some, qPick_true, qPick_false, qG_tt, qG_ff, qG_tf, qG_ft, cellsK_some, qLd_vptr, qLdA_vptr, qFa_ptr, qFa_vptr, qNc_ptr, qNc_vptr, qNc_fn, qNot_bool, qExt_tup, qCallV_fn, qLss_int, qLeq_int, qGtr_int, qGeq_int, qEql_int, qNeq_int, qAdd_int, qSub_int, qMul_int, qConvI_int, qLenL_sl, qLenL_hsl, qLenS_str, foldO, min2_int, max2_int, qSame_refl, Nat.zero_add, List.getElem?_cons_zero, List.getElem?_cons_succ, List.nil_append, List.cons_append, List.append_nil, one_bool, one_int, one_str, one_nilp, one_ptr, one_sl, one_hsl, one_map, one_fn, List.length_cons, List.length_nil, List.set_cons_zero, List.set_cons_succ, Nat.reduceLT, Nat.reduceAdd, h1', decide_false]
      exact hK v H hf ow x6 _ x9 x10 x11 x12 x13 x14 x15 x16 x17 x19 _ x47 x65 x71 x78 x109 x115 x136 x140 x141 x142 x143 x147
  · exact ⟨0, .sl [] .nil, _, _, _, _, _, _, _, _, _, _, _, _, _, _, _, _, _, _, _, _, _, _, _, _, rfl, by omega, rfl, hf, .inl ⟨rfl, rfl⟩⟩

theorem idle_c {has : List Bool} {tk2 : Tk} {S0 S2 S7 : AV} {n pS pc : Nat} {s : Sh} (hn : n ≤ 8) (hne : pc ≠ pS) (K : KT Prop)
    (hK : ∀ (H' : AH), Aes.Fn H' → H'.get pS = some (.cells s.cells) → H'.get pc = some (.cells (ints (csL n has (min n has.length)))) → ∀ (x6 x8 x12 x13 x14 x15 x16 x17 x19 x27 x47 x65 x71 x78 x109 x115 x136 x140 x141 x142 x143 x147 : AV), K [S0, .sl (boolRows has) tk2, S2, x6, S7, x8, .ptr pS 0, .hsl pc 0 n n 1 true, .bool ((List.range (min n has.length)).any fun j => has.getD j false), x12, x13, x14, x15, x16, x17, x19, x27, x47, x65, x71, x78, x109, x115, x136, x140, x141, x142, x143, x147] H')
    {H : AH} (hf : Aes.Fn H) (h1 : H.get pS = some (.cells s.cells)) (h2 : H.get pc = some (.cells (ints (List.replicate n 0)))) (x6 x8 x13 x14 x15 x16 x17 x19 x27 x47 x65 x71 x78 x109 x115 x136 x140 x141 x142 x143 x147 : AV) :
    qLoop (l10_20 K) [S0, .sl (boolRows has) tk2, S2, x6, S7, x8, .ptr pS 0, .hsl pc 0 n n 1 true, .bool false, .int .i64 0, x13, x14, x15, x16, x17, x19, x27, x47, x65, x71, x78, x109, x115, x136, x140, x141, x142, x143, x147] H := by
  refine loop_inv (fun m fr H => ∃ (i : Nat) (x6 x8 x13 x14 x15 x16 x17 x19 x27 x47 x65 x71 x78 x109 x115 x136 x140 x141 x142 x143 x147 : AV), m = 8 - i ∧ i ≤ min n has.length ∧ fr = [S0, .sl (boolRows has) tk2, S2, x6, S7, x8, .ptr pS 0, .hsl pc 0 n n 1 true, .bool ((List.range i).any fun j => has.getD j false), .int .i64 (i : Int), x13, x14, x15, x16, x17, x19, x27, x47, x65, x71, x78, x109, x115, x136, x140, x141, x142, x143, x147] ∧
    Aes.Fn H ∧ H.get pS = some (.cells s.cells) ∧ H.get pc = some (.cells (ints (csL n has i)))) ?_ (m := 8) ?_
  · rintro m fr H k ⟨i, x6, x8, x13, x14, x15, x16, x17, x19, x27, x47, x65, x71, x78, x109, x115, x136, x140, x141, x142, x143, x147, rfl, hi, rfl, hf, g1, g2⟩ hk
    by_cases l1 : i < n
    · have l1' : (i : Int) < (n : Int) := by omega
      by_cases l2 : i < has.length
      · have l2' : (i : Int) < ((boolRows has).length : Int) := by rw [boolRows_len]; omega
        have hz : has[i]? = some has[i] := List.getElem?_eq_getElem l2
        have hia := qIa_bools (tk := tk2) hz
        have hd : has.getD i false = has[i] := by rw [List.getD_eq_getElem?_getD, hz]; rfl
        have hany : ((List.range (i + 1)).any fun j => has.getD j false) = (((List.range i).any fun j => has.getD j false) || has[i]) := by
          rw [List.range_succ, List.any_append, ← hd]
          simp
        cases hb : has[i] with
        | true =>
          rw [hb] at hia hany hd
          have hst := qSt_one (R := Prop) hf g2 i (.int .i64 7)
          rw [ints_set, csL_set n has i l1 hd] at hst
          have u := Upd.set hf g2 (.cells (ints (csL n has (i + 1))))
          have hl : (ints (csL n has i)).length = n := by rw [ints_len, csL_len]
          simp only [l10_20, r10_12, r10_13, r10_14, r10_15, opn_z, opn_s, sel_z, sel_s, qCd_eq, qIf_true, qIf_false, qFn_eq, qBl_eq, qO_some, qRes_val, qHp_some, qPick_true, qPick_false, qG_tt, qG_ff, qG_tf, qG_ft, cellsK_some, qLd_vptr, qLdA_vptr, qFa_ptr, qFa_vptr, qNc_ptr, qNc_vptr, qNc_fn, qNot_bool, qExt_tup, qCallV_fn, qLss_int, qLeq_int, qGtr_int, qGeq_int, qEql_int, qNeq_int, qAdd_int, qSub_int, qMul_int, qConvI_int, qLenL_sl, qLenL_hsl, qLenS_str, foldO, min2_int, max2_int, qSame_refl, Nat.zero_add, List.getElem?_cons_zero, List.getElem?_cons_succ, List.nil_append, List.cons_append, List.append_nil, one_bool, one_int, one_str, one_nilp, one_ptr, one_sl, one_hsl, one_map, one_fn, List.length_cons, List.length_nil, List.set_cons_zero, List.set_cons_succ, Nat.reduceLT, Nat.reduceAdd, l1', l2', decide_true, hia, qIa_h pc n n i true l1, hst, hl, l1, wrap_succ i (by omega)]
          have := hk (8 - (i + 1)) [S0, .sl (boolRows has) tk2, S2, x6, S7, x8, .ptr pS 0, .hsl pc 0 n n 1 true, .bool ((List.range (i + 1)).any fun j => has.getD j false), .int .i64 ((i + 1 : Nat) : Int), x13, x14, x15, x16, x17, x19, x27, x47, .bool true, .bool true, x78, x109, x115, x136, x140, x141, x142, x143, x147] _ (by omega) ⟨i + 1, _, _, _, _, _, _, _, _, _, _, _, _, _, _, _, _, _, _, _, _, _, rfl, by omega, rfl, u.fn, (u.other pS (Ne.symm hne)).trans g1, u.at_⟩
          rw [hany, Bool.or_true] at this
          exact this
        | false =>
          rw [hb] at hia hany hd
          simp only [l10_20, r10_12, r10_13, r10_14, opn_z, opn_s, sel_z, sel_s, qCd_eq, qIf_true, qIf_false, qFn_eq, qBl_eq, qO_some, qRes_val, qHp_some, qPick_true, qPick_false, qG_tt, qG_ff, qG_tf, qG_ft, cellsK_some, qLd_vptr, qLdA_vptr, qFa_ptr, qFa_vptr, qNc_ptr, qNc_vptr, qNc_fn, qNot_bool, qExt_tup, qCallV_fn, qLss_int, qLeq_int, qGtr_int, qGeq_int, qEql_int, qNeq_int, qAdd_int, qSub_int, qMul_int, qConvI_int, qLenL_sl, qLenL_hsl, qLenS_str, foldO, min2_int, max2_int, qSame_refl, Nat.zero_add, List.getElem?_cons_zero, List.getElem?_cons_succ, List.nil_append, List.cons_append, List.append_nil, one_bool, one_int, one_str, one_nilp, one_ptr, one_sl, one_hsl, one_map, one_fn, List.length_cons, List.length_nil, List.set_cons_zero, List.set_cons_succ, Nat.reduceLT, Nat.reduceAdd, l1', l2', decide_true, hia, wrap_succ i (by omega)]
          have := hk (8 - (i + 1)) [S0, .sl (boolRows has) tk2, S2, x6, S7, x8, .ptr pS 0, .hsl pc 0 n n 1 true, .bool ((List.range (i + 1)).any fun j => has.getD j false), .int .i64 ((i + 1 : Nat) : Int), x13, x14, x15, x16, x17, x19, x27, x47, .bool true, .bool false, x78, x109, x115, x136, x140, x141, x142, x143, x147] H (by omega) ⟨i + 1, _, _, _, _, _, _, _, _, _, _, _, _, _, _, _, _, _, _, _, _, _, rfl, by omega, rfl, hf, g1, by rw [← csL_skip n has i hd]; exact g2⟩
          rw [hany, Bool.or_false] at this
          exact this
      · have l2' : ¬ (i : Int) < ((boolRows has).length : Int) := by rw [boolRows_len]; omega
        have : i = min n has.length := by omega
        subst this
        simp only [l10_20, r10_12, opn_z, opn_s, sel_z, sel_s, qCd_eq, qIf_true, qIf_false, qFn_eq, qBl_eq, qO_some, qRes_val, qHp_some, qPick_true, qPick_false, qG_tt, qG_ff, qG_tf, qG_ft, cellsK_some, qLd_vptr, qLdA_vptr, qFa_ptr, qFa_vptr, qNc_ptr, qNc_vptr, qNc_fn, qNot_bool, qExt_tup, qCallV_fn, qLss_int, qLeq_int, qGtr_int, qGeq_int, qEql_int, qNeq_int, qAdd_int, qSub_int, qMul_int, qConvI_int, qLenL_sl, qLenL_hsl, qLenS_str, foldO, min2_int, max2_int, qSame_refl, Nat.zero_add, List.getElem?_cons_zero, List.getElem?_cons_succ, List.nil_append, List.cons_append, List.append_nil, one_bool, one_int, one_str, one_nilp, one_ptr, one_sl, one_hsl, one_map, one_fn, List.length_cons, List.length_nil, List.set_cons_zero, List.set_cons_succ, Nat.reduceLT, Nat.reduceAdd, l1', l2', decide_true, decide_false]
        exact hK H hf g1 g2 x6 x8 _ x13 x14 x15 x16 x17 x19 x27 x47 _ x71 x78 x109 x115 x136 x140 x141 x142 x143 x147
    · have l1' : ¬ (i : Int) < (n : Int) := by omega
      have : i = min n has.length := by omega
      subst this
      simp only [l10_20, r10_12, opn_z, opn_s, sel_z, sel_s, qCd_eq, qIf_true, qIf_false, qFn_eq, qBl_eq, qO_some, qRes_val, qHp_some, qPick_true, qPick_false, qG_tt, qG_ff, qG_tf, qG_ft, cellsK_some, qLd_vptr, qLdA_vptr, qFa_ptr, qFa_vptr, qNc_ptr, qNc_vptr, qNc_fn, qNot_bool, qExt_tup, qCallV_fn, qLss_int, qLeq_int, qGtr_int, qGeq_int, qEql_int, qNeq_int, qAdd_int, qSub_int, qMul_int, qConvI_int, qLenL_sl, qLenL_hsl, qLenS_str, foldO, min2_int, max2_int, qSame_refl, Nat.zero_add, List.getElem?_cons_zero, List.getElem?_cons_succ, List.nil_append, List.cons_append, List.append_nil, one_bool, one_int, one_str, one_nilp, one_ptr, one_sl, one_hsl, one_map, one_fn, List.length_cons, List.length_nil, List.set_cons_zero, List.set_cons_succ, Nat.reduceLT, Nat.reduceAdd, l1', decide_false]
      exact hK H hf g1 g2 x6 x8 _ x13 x14 x15 x16 x17 x19 x27 x47 _ x71 x78 x109 x115 x136 x140 x141 x142 x143 x147
  · exact ⟨0, _, _, _, _, _, _, _, _, _, _, _, _, _, _, _, _, _, _, _, _, _, rfl, by omega, rfl, hf, h1, by rw [csL_zero]; exact h2⟩

/-- what holds of the share all along -/
structure ISt (n : Nat) (W : List Int) (A : List Int) (s : Sh) (t : Nat) : Prop where
  ok : s.Ok
  n_ : s.n = n
  q_ : s.q = 60
  pos : s.pos < s.n
  cb : CB s
  sb : SB s (50000 * t)
  P : ∀ i, A.getD i 0 = 0 → s.Sv.getD i 0 = 0

theorem idle_n {S0 S1 S7 : AV} {n pS pc : Nat} {W cs A : List Int} {steps : Int} {some' : Bool} (hne : pc ≠ pS) (hcl : cs.length = n) (hA : ∀ s : Sh, s.n = n → s.q = 60 → askA s cs = A) (hS : someA 60 cs (min n cs.length) = some') (hc : ∀ i, i < n → A.getD i 0 ≠ 0 → cs.getD i 0 ≠ 0) {Q : AV → AH → Prop} (K : KT Prop)
    (hK : ∀ (H' : AH) (s : Sh), Aes.Fn H' → H'.get pS = some (.cells s.cells) → H'.get pc = some (.cells (ints cs)) → ISt n W A s 60 → ∀ (x6 x8 x12 x13 x14 x15 x16 x17 x19 x27 x47 x65 x71 x78 x109 x115 x136 x140 x141 x142 x143 x147 : AV), K [S0, S1, .int .i64 steps, x6, S7, x8, .ptr pS 0, .hsl pc 0 n n 1 true, .bool some', x12, x13, x14, x15, x16, x17, x19, x27, x47, x65, x71, x78, x109, x115, x136, x140, x141, x142, x143, x147] H')
    {H : AH} {s : Sh} (hf : Aes.Fn H) (h1 : H.get pS = some (.cells s.cells)) (h2 : H.get pc = some (.cells (ints cs))) (st : ISt n W A s 0) (x6 x8 x12 x14 x15 x16 x17 x19 x27 x47 x65 x71 x78 x109 x115 x136 x140 x141 x142 x143 x147 : AV) :
    qLoop (l10_15 (evl X O) K (fun fr H => Q (sel 3 fr) H)) [S0, S1, .int .i64 steps, x6, S7, x8, .ptr pS 0, .hsl pc 0 n n 1 true, .bool some', x12, .int .i64 0, x14, x15, x16, x17, x19, x27, x47, x65, x71, x78, x109, x115, x136, x140, x141, x142, x143, x147] H := by
  have p0 := Int.emod_nonneg steps (by decide : (60 : Int) ≠ 0)
  have p1 := Int.emod_lt_of_pos steps (by decide : (0 : Int) < 60)
  have pl := fun H => ev_place hO steps 60 (by decide) (by decide) H
  generalize steps % 60 = T at *
  refine loop_inv (fun m fr H => ∃ (i : Nat) (s : Sh) (x6 x8 x12 x14 x15 x16 x17 x19 x27 x47 x65 x71 x78 x109 x115 x136 x140 x141 x142 x143 x147 : AV), m = 60 - i ∧ i ≤ 60 ∧ fr = [S0, S1, .int .i64 steps, x6, S7, x8, .ptr pS 0, .hsl pc 0 n n 1 true, .bool some', x12, .int .i64 (i : Int), x14, x15, x16, x17, x19, x27, x47, x65, x71, x78, x109, x115, x136, x140, x141, x142, x143, x147] ∧
    Aes.Fn H ∧ H.get pS = some (.cells s.cells) ∧ H.get pc = some (.cells (ints cs)) ∧ ISt n W A s i) ?_ (m := 60) ?_
  · rintro m fr H k ⟨i, s, x6, x8, x12, x14, x15, x16, x17, x19, x27, x47, x65, x71, x78, x109, x115, x136, x140, x141, x142, x143, x147, rfl, hi, rfl, hf, g1, g2, st⟩ hk
    by_cases l1 : (i : Int) < T
    · have hv : Ints H (.hsl pc 0 n n 1 true) cs := .inr ⟨pc, true, by rw [hcl], g2⟩
      have hsome : someA s.q cs (min s.n cs.length) = some' := by rw [st.q_, st.n_]; exact hS
      cases hs : some' with
      | true =>
        rw [hs] at hsome
        obtain ⟨j, hj, ha⟩ := someA_spec st.ok cs hsome
        obtain ⟨m, R, hr⟩ := srv_some ha _ s (Nat.lt_succ_self _) st.ok st.pos hj st.cb st.sb (askA_ab st.ok cs)
        obtain ⟨H', b1, b2, b3, b4, b5, b6, b7, b8, b9, b10, b11⟩ := ev_next_some hO hf (v := .hsl pc 0 n n 1 true) (cs := cs) st.ok st.pos st.cb st.sb (by omega) g1 hv hsome hr
        rw [hA s st.n_ st.q_] at hr
        obtain ⟨w1, w2, w3⟩ := srv_who hr st.pos (by rw [st.ok.v]; exact st.ok.n8) st.P
        rw [st.n_] at w1
        have hcR := hc _ w1 w2
        have hce := getD_some (l := cs) (i := R.1) (by omega)
        have g2' : H'.get pc = some (.cells (ints cs)) := (b2.keep pc (hf.lt g2) hne).trans g2
        have Lc := ld g2' R.1 _ (ints_get _ _ _ hce)
        have c0 : ¬ ((R.1 : Int) < 0) := by omega
        have c1 : ¬ ((n : Int) ≤ (R.1 : Int)) := by omega
        have c2 : (cs.getD R.1 0 == 0) = false := by simpa using hcR
        have st' : ISt n W A R.2 (i + 1) := ⟨b4, b9.trans st.n_, b8.trans st.q_, b5, b6, fun j x h => by have := b7 j x h; omega, w3⟩
        subst hs
        simp only [l10_15, r10_17, r10_18, r10_19, r10_20, opn_z, opn_s, sel_z, sel_s, qCd_eq, qIf_true, qIf_false, qFn_eq, qBl_eq, qO_some, qRes_val, qHp_some, qPick_true, qPick_false, qG_tt, qG_ff, qG_tf, qG_ft, cellsK_some, qLd_vptr, qLdA_vptr, qFa_ptr, qFa_vptr, qNc_ptr, qNc_vptr, qNc_fn, qNot_bool, qExt_tup, qCallV_fn, qLss_int, qLeq_int, qGtr_int, qGeq_int, qEql_int, qNeq_int, qAdd_int, qSub_int, qMul_int, qConvI_int, qLenL_sl, qLenL_hsl, qLenS_str, foldO, min2_int, max2_int, qSame_refl, Nat.zero_add, List.getElem?_cons_zero, List.getElem?_cons_succ, List.nil_append, List.cons_append, List.append_nil, one_bool, one_int, one_str, one_nilp, one_ptr, one_sl, one_hsl, one_map, one_fn, List.length_cons, List.length_nil, List.set_cons_zero, List.set_cons_succ, Nat.reduceLT, Nat.reduceAdd, pl, l1, decide_true, b1, neB2, bne_self_eq_false, c0, c1, decide_false, qIa_h pc n n R.1 true w1, Lc, c2, wrap_succ i (by omega)]
        exact hk (60 - (i + 1)) _ _ (by omega) ⟨i + 1, R.2, _, _, _, _, _, _, _, _, _, _, _, _, _, _, _, _, _, _, _, _, _, rfl, by omega, rfl, b2.fn, b3, g2', st'⟩
      | false =>
        rw [hs] at hsome
        obtain ⟨H', b1, b2, b3⟩ := ev_next_none hO hf (v := .hsl pc 0 n n 1 true) (cs := cs) st.ok g1 hv hsome
        have g2' : H'.get pc = some (.cells (ints cs)) := (b2.keep pc (hf.lt g2) hne).trans g2
        have st' : ISt n W A { s with Cr := pad8 [] } (i + 1) := ⟨⟨st.ok.w, pad8_len [] (by decide), st.ok.v, st.ok.n8, st.ok.a, st.ok.q1, st.ok.q2, st.ok.w1, st.ok.w2⟩, st.n_, st.q_, st.pos, fun j x h => by have := pad0_get h; omega, fun j x h => by have := st.sb j x h; omega, st.P⟩
        subst hs
        simp only [l10_15, r10_17, r10_18, r10_19, r10_20, opn_z, opn_s, sel_z, sel_s, qCd_eq, qIf_true, qIf_false, qFn_eq, qBl_eq, qO_some, qRes_val, qHp_some, qPick_true, qPick_false, qG_tt, qG_ff, qG_tf, qG_ft, cellsK_some, qLd_vptr, qLdA_vptr, qFa_ptr, qFa_vptr, qNc_ptr, qNc_vptr, qNc_fn, qNot_bool, qExt_tup, qCallV_fn, qLss_int, qLeq_int, qGtr_int, qGeq_int, qEql_int, qNeq_int, qAdd_int, qSub_int, qMul_int, qConvI_int, qLenL_sl, qLenL_hsl, qLenS_str, foldO, min2_int, max2_int, qSame_refl, Nat.zero_add, List.getElem?_cons_zero, List.getElem?_cons_succ, List.nil_append, List.cons_append, List.append_nil, one_bool, one_int, one_str, one_nilp, one_ptr, one_sl, one_hsl, one_map, one_fn, List.length_cons, List.length_nil, List.set_cons_zero, List.set_cons_succ, Nat.reduceLT, Nat.reduceAdd, pl, l1, decide_true, b1, neB2, qG_u, bne_self_eq_false, wrap_succ i (by omega)]
        exact hk (60 - (i + 1)) _ _ (by omega) ⟨i + 1, { s with Cr := pad8 [] }, _, _, _, _, _, _, _, _, _, _, _, _, _, _, _, _, _, _, _, _, _, rfl, by omega, rfl, b2.fn, b3, g2', st'⟩
    · simp only [l10_15, r10_17, opn_z, opn_s, sel_z, sel_s, qCd_eq, qIf_true, qIf_false, qFn_eq, qBl_eq, qO_some, qRes_val, qHp_some, qPick_true, qPick_false, qG_tt, qG_ff, qG_tf, qG_ft, cellsK_some, qLd_vptr, qLdA_vptr, qFa_ptr, qFa_vptr, qNc_ptr, qNc_vptr, qNc_fn, qNot_bool, qExt_tup, qCallV_fn, qLss_int, qLeq_int, qGtr_int, qGeq_int, qEql_int, qNeq_int, qAdd_int, qSub_int, qMul_int, qConvI_int, qLenL_sl, qLenL_hsl, qLenS_str, foldO, min2_int, max2_int, qSame_refl, Nat.zero_add, List.getElem?_cons_zero, List.getElem?_cons_succ, List.nil_append, List.cons_append, List.append_nil, one_bool, one_int, one_str, one_nilp, one_ptr, one_sl, one_hsl, one_map, one_fn, List.length_cons, List.length_nil, List.set_cons_zero, List.set_cons_succ, Nat.reduceLT, Nat.reduceAdd, pl, l1, decide_false]
      exact hK H s hf g1 g2 ⟨st.ok, st.n_, st.q_, st.pos, st.cb, fun j x h => by have := st.sb j x h; omega, st.P⟩ x6 x8 x12 _ x14 x15 x16 x17 x19 x27 x47 x65 x71 _ x109 x115 x136 x140 x141 x142 x143 x147
  · exact ⟨0, s, _, _, _, _, _, _, _, _, _, _, _, _, _, _, _, _, _, _, _, _, _, rfl, by omega, rfl, hf, h1, h2, st⟩

end
end T
set_option linter.unusedVariables false
set_option linter.unusedSimpArgs false
set_option maxRecDepth 10000
namespace T
open Go Go.Aes Go.Proofs

theorem Own.sl {H : AH} {v : AV} {zs : List Int} (h : Own H v zs) : ∃ tk, v = .sl (intRows .i64 zs) tk := by
  rcases h with ⟨rfl, rfl⟩ | ⟨_, t, rfl, _⟩
  · exact ⟨.nil, rfl⟩
  · exact ⟨_, rfl⟩

theorem idle_s {w sv cs : List Int} {tk tk2 : Tk} {n pS pc : Nat} {s : Sh} (hw : w.length = n) (hs : sv.length = n) (hcl : cs.length = n) (hn : n ≤ 8) (h0 : ∀ i, i < n → cs.getD i 0 = 0 → sv.getD i 0 = 0) {Q : AV → AH → Prop} (K : KT Prop)
    (hK : ∀ (H' : AH), Aes.Fn H' → H'.get pS = some (.cells s.cells) → ∀ (x0 x1 x2 x6 x8 x10 x11 x12 x13 x14 x15 x16 x17 x19 x27 x47 x65 x71 x78 x109 x115 x136 x140 x141 x142 x143 x147 : AV), K [x0, x1, x2, x6, .sl (intRows .i64 w) tk, x8, .ptr pS 0, x10, x11, x12, x13, x14, x15, x16, x17, x19, x27, x47, x65, x71, x78, x109, x115, x136, x140, x141, x142, x143, x147] H')
    {H : AH} (hf : Aes.Fn H) (h1 : H.get pS = some (.cells s.cells)) (h2 : H.get pc = some (.cells (ints cs))) (x0 x1 x2 x6 x8 x11 x12 x13 x14 x15 x19 x27 x47 x65 x71 x78 x109 x115 x136 x140 x141 x142 x143 x147 : AV) :
    qLoop (l10_10 K (fun fr H => Q (sel 3 fr) H)) [x0, x1, x2, x6, .sl (intRows .i64 w) tk, x8, .ptr pS 0, .hsl pc 0 n n 1 true, x11, x12, x13, x14, x15, .sl (intRows .i64 sv) tk2, .int .i64 0, x19, x27, x47, x65, x71, x78, x109, x115, x136, x140, x141, x142, x143, x147] H := by
  refine loop_inv (fun m fr H => ∃ (i : Nat) (x0 x1 x2 x6 x8 x11 x12 x13 x14 x15 x19 x27 x47 x65 x71 x78 x109 x115 x136 x140 x141 x142 x143 x147 : AV), m = 8 - i ∧ i ≤ n ∧ fr = [x0, x1, x2, x6, .sl (intRows .i64 w) tk, x8, .ptr pS 0, .hsl pc 0 n n 1 true, x11, x12, x13, x14, x15, .sl (intRows .i64 sv) tk2, .int .i64 (i : Int), x19, x27, x47, x65, x71, x78, x109, x115, x136, x140, x141, x142, x143, x147] ∧
    Aes.Fn H ∧ H.get pS = some (.cells s.cells) ∧ H.get pc = some (.cells (ints cs))) ?_ (m := 8) ?_
  · rintro m fr H k ⟨i, x0, x1, x2, x6, x8, x11, x12, x13, x14, x15, x19, x27, x47, x65, x71, x78, x109, x115, x136, x140, x141, x142, x143, x147, rfl, hi, rfl, hf, g1, g2⟩ hk
    by_cases l1 : i < n
    · have l1' : (i : Int) < ((intRows .i64 w).length : Int) := by rw [intRows_len]; omega
      have hlen : (((intRows .i64 sv).length : Int) == ((intRows .i64 w).length : Int)) = true := by rw [intRows_len, intRows_len, hw, hs]; simp
      have hz : sv[i]? = some (sv.getD i 0) := getD_some (by omega)
      have hia := qIa_ints (tk := tk2) hz
      have Lc := ld g2 i _ (ints_get _ _ _ (getD_some (l := cs) (i := i) (by omega)))
      by_cases hc : cs.getD i 0 = 0
      · have hc' : (cs.getD i 0 == 0) = true := by simpa using hc
        have hs' : (sv.getD i 0 == 0) = true := by rw [h0 i l1 hc]; rfl
        simp only [l10_10, r10_24, r10_26, r10_25, opn_z, opn_s, sel_z, sel_s, qCd_eq, qIf_true, qIf_false, qFn_eq, qBl_eq, qO_some, qRes_val, qHp_some, qPick_true, qPick_false, qG_tt, qG_ff, qG_tf, qG_ft, cellsK_some, qLd_vptr, qLdA_vptr, qFa_ptr, qFa_vptr, qNc_ptr, qNc_vptr, qNc_fn, qNot_bool, qExt_tup, qCallV_fn, qLss_int, qLeq_int, qGtr_int, qGeq_int, qEql_int, qNeq_int, qAdd_int, qSub_int, qMul_int, qConvI_int, qLenL_sl, qLenL_hsl, qLenS_str, foldO, min2_int, max2_int, qSame_refl, Nat.zero_add, List.getElem?_cons_zero, List.getElem?_cons_succ, List.nil_append, List.cons_append, List.append_nil, one_bool, one_int, one_str, one_nilp, one_ptr, one_sl, one_hsl, one_map, one_fn, List.length_cons, List.length_nil, List.set_cons_zero, List.set_cons_succ, Nat.reduceLT, Nat.reduceAdd, qLd_vptr, l1', decide_true, hlen, qIa_h pc n n i true l1, Lc, hc', hia, hs', Bool.not_true, wrap_succ i (by omega)]
        exact hk (8 - (i + 1)) _ _ (by omega) ⟨i + 1, _, _, _, _, _, _, _, _, _, _, _, _, _, _, _, _, _, _, _, _, _, _, _, _, rfl, by omega, rfl, hf, g1, g2⟩
      · have hc' : (cs.getD i 0 == 0) = false := by simpa using hc
        simp only [l10_10, r10_24, r10_26, r10_25, opn_z, opn_s, sel_z, sel_s, qCd_eq, qIf_true, qIf_false, qFn_eq, qBl_eq, qO_some, qRes_val, qHp_some, qPick_true, qPick_false, qG_tt, qG_ff, qG_tf, qG_ft, cellsK_some, qLd_vptr, qLdA_vptr, qFa_ptr, qFa_vptr, qNc_ptr, qNc_vptr, qNc_fn, qNot_bool, qExt_tup, qCallV_fn, qLss_int, qLeq_int, qGtr_int, qGeq_int, qEql_int, qNeq_int, qAdd_int, qSub_int, qMul_int, qConvI_int, qLenL_sl, qLenL_hsl, qLenS_str, foldO, min2_int, max2_int, qSame_refl, Nat.zero_add, List.getElem?_cons_zero, List.getElem?_cons_succ, List.nil_append, List.cons_append, List.append_nil, one_bool, one_int, one_str, one_nilp, one_ptr, one_sl, one_hsl, one_map, one_fn, List.length_cons, List.length_nil, List.set_cons_zero, List.set_cons_succ, Nat.reduceLT, Nat.reduceAdd, qLd_vptr, l1', decide_true, hlen, qIa_h pc n n i true l1, Lc, hc', Bool.not_true, wrap_succ i (by omega)]
        exact hk (8 - (i + 1)) _ _ (by omega) ⟨i + 1, _, _, _, _, _, _, _, _, _, _, _, _, _, _, _, _, _, _, _, _, _, _, _, _, rfl, by omega, rfl, hf, g1, g2⟩
    · have l1' : ¬ (i : Int) < ((intRows .i64 w).length : Int) := by rw [intRows_len]; omega
      simp only [l10_10, r10_24, opn_z, opn_s, sel_z, sel_s, qCd_eq, qIf_true, qIf_false, qFn_eq, qBl_eq, qO_some, qRes_val, qHp_some, qPick_true, qPick_false, qG_tt, qG_ff, qG_tf, qG_ft, cellsK_some, qLd_vptr, qLdA_vptr, qFa_ptr, qFa_vptr, qNc_ptr, qNc_vptr, qNc_fn, qNot_bool, qExt_tup, qCallV_fn, qLss_int, qLeq_int, qGtr_int, qGeq_int, qEql_int, qNeq_int, qAdd_int, qSub_int, qMul_int, qConvI_int, qLenL_sl, qLenL_hsl, qLenS_str, foldO, min2_int, max2_int, qSame_refl, Nat.zero_add, List.getElem?_cons_zero, List.getElem?_cons_succ, List.nil_append, List.cons_append, List.append_nil, one_bool, one_int, one_str, one_nilp, one_ptr, one_sl, one_hsl, one_map, one_fn, List.length_cons, List.length_nil, List.set_cons_zero, List.set_cons_succ, Nat.reduceLT, Nat.reduceAdd, l1', decide_false]
      exact hK H hf g1 _ _ _ _ _ _ _ _ _ _ _ _ _ _ _ _ _ _ _ _ _ _ _ _ _ _ _
  · exact ⟨0, _, _, _, _, _, _, _, _, _, _, _, _, _, _, _, _, _, _, _, _, _, _, _, _, rfl, by omega, rfl, hf, h1, h2⟩

theorem idle_z {w cr : List Int} {tk tk2 : Tk} {n pS : Nat} {s : Sh} (hs : cr.length = n) (hn : n ≤ 8) (h0 : ∀ i, i < n → cr.getD i 0 = 0) {Q : AV → AH → Prop} (K : KT Prop)
    (hK : ∀ (H' : AH), Aes.Fn H' → H'.get pS = some (.cells s.cells) → ∀ (x0 x1 x2 x6 x8 x10 x11 x12 x13 x14 x15 x16 x17 x19 x27 x47 x65 x71 x78 x109 x115 x136 x140 x141 x142 x143 x147 : AV), K [x0, x1, x2, x6, .sl (intRows .i64 w) tk, x8, .ptr pS 0, x10, x11, x12, x13, x14, x15, x16, x17, x19, x27, x47, x65, x71, x78, x109, x115, x136, x140, x141, x142, x143, x147] H')
    {H : AH} (hf : Aes.Fn H) (h1 : H.get pS = some (.cells s.cells)) (x0 x1 x2 x6 x8 x10 x11 x12 x13 x14 x15 x16 x17 x19 x27 x47 x65 x71 x78 x109 x115 x136 x143 x147 : AV) :
    qLoop (l10_5 K (fun fr H => Q (sel 3 fr) H)) [x0, x1, x2, x6, .sl (intRows .i64 w) tk, x8, .ptr pS 0, x10, x11, x12, x13, x14, x15, x16, x17, x19, x27, x47, x65, x71, x78, x109, x115, x136, .sl (intRows .i64 cr) tk2, .int .i64 (n : Int), .int .i64 0, x143, x147] H := by
  refine loop_inv (fun m fr H => ∃ (i : Nat) (x0 x1 x2 x6 x8 x10 x11 x12 x13 x14 x15 x16 x17 x19 x27 x47 x65 x71 x78 x109 x115 x136 x143 x147 : AV), m = 8 - i ∧ i ≤ n ∧ fr = [x0, x1, x2, x6, .sl (intRows .i64 w) tk, x8, .ptr pS 0, x10, x11, x12, x13, x14, x15, x16, x17, x19, x27, x47, x65, x71, x78, x109, x115, x136, .sl (intRows .i64 cr) tk2, .int .i64 (n : Int), .int .i64 (i : Int), x143, x147] ∧
    Aes.Fn H ∧ H.get pS = some (.cells s.cells)) ?_ (m := 8) ?_
  · rintro m fr H k ⟨i, x0, x1, x2, x6, x8, x10, x11, x12, x13, x14, x15, x16, x17, x19, x27, x47, x65, x71, x78, x109, x115, x136, x143, x147, rfl, hi, rfl, hf, g1⟩ hk
    by_cases l1 : i < n
    · have l1' : (i : Int) < (n : Int) := by omega
      have hz : cr[i]? = some 0 := by rw [← h0 i l1]; exact getD_some (by omega)
      have hia := qIa_ints (tk := tk2) hz
      simp only [l10_5, r10_30, r10_31, r10_32, r10_34, opn_z, opn_s, sel_z, sel_s, qCd_eq, qIf_true, qIf_false, qFn_eq, qBl_eq, qO_some, qRes_val, qHp_some, qPick_true, qPick_false, qG_tt, qG_ff, qG_tf, qG_ft, cellsK_some, qLd_vptr, qLdA_vptr, qFa_ptr, qFa_vptr, qNc_ptr, qNc_vptr, qNc_fn, qNot_bool, qExt_tup, qCallV_fn, qLss_int, qLeq_int, qGtr_int, qGeq_int, qEql_int, qNeq_int, qAdd_int, qSub_int, qMul_int, qConvI_int, qLenL_sl, qLenL_hsl, qLenS_str, foldO, min2_int, max2_int, qSame_refl, Nat.zero_add, List.getElem?_cons_zero, List.getElem?_cons_succ, List.nil_append, List.cons_append, List.append_nil, one_bool, one_int, one_str, one_nilp, one_ptr, one_sl, one_hsl, one_map, one_fn, List.length_cons, List.length_nil, List.set_cons_zero, List.set_cons_succ, Nat.reduceLT, Nat.reduceAdd, qLd_vptr, l1', decide_true, hia, bne_self_eq_false, wrap_succ i (by omega)]
      exact hk (8 - (i + 1)) _ _ (by omega) ⟨i + 1, _, _, _, _, _, _, _, _, _, _, _, _, _, _, _, _, _, _, _, _, _, _, _, _, rfl, by omega, rfl, hf, g1⟩
    · have l1' : ¬ (i : Int) < (n : Int) := by omega
      simp only [l10_5, r10_30, opn_z, opn_s, sel_z, sel_s, qCd_eq, qIf_true, qIf_false, qFn_eq, qBl_eq, qO_some, qRes_val, qHp_some, qPick_true, qPick_false, qG_tt, qG_ff, qG_tf, qG_ft, cellsK_some, qLd_vptr, qLdA_vptr, qFa_ptr, qFa_vptr, qNc_ptr, qNc_vptr, qNc_fn, qNot_bool, qExt_tup, qCallV_fn, qLss_int, qLeq_int, qGtr_int, qGeq_int, qEql_int, qNeq_int, qAdd_int, qSub_int, qMul_int, qConvI_int, qLenL_sl, qLenL_hsl, qLenS_str, foldO, min2_int, max2_int, qSame_refl, Nat.zero_add, List.getElem?_cons_zero, List.getElem?_cons_succ, List.nil_append, List.cons_append, List.append_nil, one_bool, one_int, one_str, one_nilp, one_ptr, one_sl, one_hsl, one_map, one_fn, List.length_cons, List.length_nil, List.set_cons_zero, List.set_cons_succ, Nat.reduceLT, Nat.reduceAdd, l1', decide_false]
      exact hK H hf g1 _ _ _ _ _ _ _ _ _ _ _ _ _ _ _ _ _ _ _ _ _ _ _ _ _ _ _
  · exact ⟨0, _, _, _, _, _, _, _, _, _, _, _, _, _, _, _, _, _, _, _, _, _, _, _, _, rfl, by omega, rfl, hf, h1⟩

theorem pad0_getD (i : Nat) : (pad8 []).getD i 0 = 0 := by rw [pad8_getD]; rfl
theorem take_getD0 {l : List Int} {n i : Nat} (h : i < n) : (l.take n).getD i 0 = l.getD i 0 := by
  rw [List.getD_eq_getElem?_getD, List.getD_eq_getElem?_getD, List.getElem?_take, if_pos h]

section
variable {O : CallF} (hO : OutO O)
include hO

theorem ev_idle (ws : List Int) (tk1 : Tk) (has : List Bool) (tk2 : Tk) (steps : Int) :
    ∃ H', evl X O 10 [.sl (intRows .i64 ws) tk1, .sl (boolRows has) tk2, .int .i64 steps] H0 = some (.val (.bool true) H') := by
  suffices h : c10 (evl X O) [.sl (intRows .i64 ws) tk1, .sl (boolRows has) tk2, .int .i64 steps] H0 (fun v _ => v = .bool true) by
    obtain ⟨v, H', h1, rfl⟩ := of_form e10 xf10 (hO _ _ _ (by decide) (by decide)) h
    exact ⟨H', h1⟩
  simp only [c10, r10_0, r10_1, r10_2, opn_z, opn_s, sel_z, sel_s, qCd_eq, qIf_true, qIf_false, qFn_eq, qBl_eq, qO_some, qRes_val, qHp_some, qPick_true, qPick_false, qG_tt, qG_ff, qG_tf, qG_ft, cellsK_some, qLd_vptr, qLdA_vptr, qFa_ptr, qFa_vptr, qNc_ptr, qNc_vptr, qNc_fn, qNot_bool, qExt_tup, qCallV_fn, qLss_int, qLeq_int, qGtr_int, qGeq_int, qEql_int, qNeq_int, qAdd_int, qSub_int, qMul_int, qConvI_int, qLenL_sl, qLenL_hsl, qLenS_str, foldO, min2_int, max2_int, qSame_refl, Nat.zero_add, List.getElem?_cons_zero, List.getElem?_cons_succ, List.nil_append, List.cons_append, List.append_nil, one_bool, one_int, one_str, one_nilp, one_ptr, one_sl, one_hsl, one_map, one_fn, List.length_cons, List.length_nil, List.set_cons_zero, List.set_cons_succ, Nat.reduceLT, Nat.reduceAdd]
  refine idle_w hO _ ?_ .H0 _ _ _ _ _ _ _ _ _ _ _ _ _ _ _ _ _ _ _ _ _ _ _ _
  intro v H1 hf1 ow
  intro x6 x8 x9 x10 x11 x12 x13 x14 x15 x16 x17 x19 x27 x47 x65 x71 x78 x109 x115 x136 x140 x141 x142 x143 x147
  obtain ⟨tk, hv⟩ := ow.sl
  have hl : (wts ws 6 (min ws.length 8)).length = min ws.length 8 := wts_len _ _ _ (by omega)
  generalize wts ws 6 (min ws.length 8) = w at *
  obtain ⟨H2, a1, a2⟩ := ev_snew hO hf1 60 (ow.ints H1) (by rw [hl]; unfold Go.maxLen; omega)
  subst hv
  generalize hn : min ws.length 8 = n at *
  have hn8 : n ≤ 8 := by omega
  rw [hl, Nat.min_eq_left hn8] at a2
  have f2 := a2.fn
  have g2 := a2.at_
  clear a2
  generalize H1.nx = pS at *
  by_cases h0 : n = 0
  · have hw0 : (((intRows .i64 w).length : Int) == 0) = true := by rw [intRows_len, hl, h0]; rfl
    obtain ⟨H3, b1, b2⟩ := ev_sawake hO f2
    simp only [r10_6, r10_7, r10_8, opn_z, opn_s, sel_z, sel_s, qCd_eq, qIf_true, qIf_false, qFn_eq, qBl_eq, qO_some, qRes_val, qHp_some, qPick_true, qPick_false, qG_tt, qG_ff, qG_tf, qG_ft, cellsK_some, qLd_vptr, qLdA_vptr, qFa_ptr, qFa_vptr, qNc_ptr, qNc_vptr, qNc_fn, qNot_bool, qExt_tup, qCallV_fn, qLss_int, qLeq_int, qGtr_int, qGeq_int, qEql_int, qNeq_int, qAdd_int, qSub_int, qMul_int, qConvI_int, qLenL_sl, qLenL_hsl, qLenS_str, foldO, min2_int, max2_int, qSame_refl, Nat.zero_add, List.getElem?_cons_zero, List.getElem?_cons_succ, List.nil_append, List.cons_append, List.append_nil, one_bool, one_int, one_str, one_nilp, one_ptr, one_sl, one_hsl, one_map, one_fn, List.length_cons, List.length_nil, List.set_cons_zero, List.set_cons_succ, Nat.reduceLT, Nat.reduceAdd, a1, eq_nil37, hw0, ne_nil37, b1]
  · have hw0 : ((n : Int) == 0) = false := by simp; exact h0
    have hwl : ((intRows .i64 w).length : Int) = (n : Int) := by rw [intRows_len, hl]
    have ok := newSh_full 60 w n hn8 (by omega)
    have hne : H2.nx ≠ pS := by have := f2.lt g2; omega
    have n3 := New.push f2 (.cells (ints (List.replicate n 0)))
    simp only [r10_6, r10_7, r10_9, r10_10, r10_11, opn_z, opn_s, sel_z, sel_s, qCd_eq, qIf_true, qIf_false, qFn_eq, qBl_eq, qO_some, qRes_val, qHp_some, qPick_true, qPick_false, qG_tt, qG_ff, qG_tf, qG_ft, cellsK_some, qLd_vptr, qLdA_vptr, qFa_ptr, qFa_vptr, qNc_ptr, qNc_vptr, qNc_fn, qNot_bool, qExt_tup, qCallV_fn, qLss_int, qLeq_int, qGtr_int, qGeq_int, qEql_int, qNeq_int, qAdd_int, qSub_int, qMul_int, qConvI_int, qLenL_sl, qLenL_hsl, qLenS_str, foldO, min2_int, max2_int, qSame_refl, Nat.zero_add, List.getElem?_cons_zero, List.getElem?_cons_succ, List.nil_append, List.cons_append, List.append_nil, one_bool, one_int, one_str, one_nilp, one_ptr, one_sl, one_hsl, one_map, one_fn, List.length_cons, List.length_nil, List.set_cons_zero, List.set_cons_succ, Nat.reduceLT, Nat.reduceAdd, a1, eq_nil37, hw0, hwl, mkS f2 n (by omega)]
    generalize H2.push (.cells (ints (List.replicate n 0))) = H3 at n3
    have g3 : H3.get pS = some (.cells (newSh 60 w n).cells) := (n3.other pS (f2.lt g2)).trans g2
    have f3 := n3.fn
    have c3 := n3.at_
    clear n3
    generalize H2.nx = pc at *
    refine idle_c hO hn8 hne _ ?_ f3 g3 c3 _ _ _ _ _ _ _ _ _ _ _ _ _ _ _ _ _ _ _ _ _
    intro H4 hf4 g4 c4 x6 x8 x12 x13 x14 x15 x16 x17 x19 x27 x47 x65 x71 x78 x109 x115 x136 x140 x141 x142 x143 x147
    have hcl := csL_len n has (min n has.length)
    have hsm := csL_some n has (min n has.length) (by omega)
    generalize csL n has (min n has.length) = cs at *
    simp only [r10_16, opn_z, opn_s, sel_z, sel_s, qCd_eq, qIf_true, qIf_false, qFn_eq, qBl_eq, qO_some, qRes_val, qHp_some, qPick_true, qPick_false, qG_tt, qG_ff, qG_tf, qG_ft, cellsK_some, qLd_vptr, qLdA_vptr, qFa_ptr, qFa_vptr, qNc_ptr, qNc_vptr, qNc_fn, qNot_bool, qExt_tup, qCallV_fn, qLss_int, qLeq_int, qGtr_int, qGeq_int, qEql_int, qNeq_int, qAdd_int, qSub_int, qMul_int, qConvI_int, qLenL_sl, qLenL_hsl, qLenS_str, foldO, min2_int, max2_int, qSame_refl, Nat.zero_add, List.getElem?_cons_zero, List.getElem?_cons_succ, List.nil_append, List.cons_append, List.append_nil, one_bool, one_int, one_str, one_nilp, one_ptr, one_sl, one_hsl, one_map, one_fn, List.length_cons, List.length_nil, List.set_cons_zero, List.set_cons_succ, Nat.reduceLT, Nat.reduceAdd]
    have hnn : (newSh 60 w n).n = n := by show min w.length 8 = n; rw [hl]; omega
    refine idle_n hO (A := askA (newSh 60 w n) cs) (W := w) (Q := fun v _ => v = .bool true) hne hcl (fun s e1 e2 => ?_) hsm (fun i hi h => ?_) _ ?_ hf4 g4 c4 ?_ _ _ _ _ _ _ _ _ _ _ _ _ _ _ _ _ _ _ _ _ _
    · unfold askA
      rw [e1, e2, hnn]
      rfl
    · intro he
      exact h (askA_zero (by omega) he)
    · intro H5 s hf5 g5 c5 st
      intro x6 x8 x12 x13 x14 x15 x16 x17 x19 x27 x47 x65 x71 x78 x109 x115 x136 x140 x141 x142 x143 x147
      obtain ⟨tk3, H6, d1, d2⟩ := ev_served hO hf5 st.ok g5
      have g6 := (d2.keep pS (hf5.lt g5) (fun h => h)).trans g5
      have c6 := (d2.keep pc (hf5.lt c5) (fun h => h)).trans c5
      have hsn := st.n_
      rw [hsn] at d1
      simp only [r10_22, r10_23, opn_z, opn_s, sel_z, sel_s, qCd_eq, qIf_true, qIf_false, qFn_eq, qBl_eq, qO_some, qRes_val, qHp_some, qPick_true, qPick_false, qG_tt, qG_ff, qG_tf, qG_ft, cellsK_some, qLd_vptr, qLdA_vptr, qFa_ptr, qFa_vptr, qNc_ptr, qNc_vptr, qNc_fn, qNot_bool, qExt_tup, qCallV_fn, qLss_int, qLeq_int, qGtr_int, qGeq_int, qEql_int, qNeq_int, qAdd_int, qSub_int, qMul_int, qConvI_int, qLenL_sl, qLenL_hsl, qLenS_str, foldO, min2_int, max2_int, qSame_refl, Nat.zero_add, List.getElem?_cons_zero, List.getElem?_cons_succ, List.nil_append, List.cons_append, List.append_nil, one_bool, one_int, one_str, one_nilp, one_ptr, one_sl, one_hsl, one_map, one_fn, List.length_cons, List.length_nil, List.set_cons_zero, List.set_cons_succ, Nat.reduceLT, Nat.reduceAdd, d1]
      refine idle_s (Q := fun v _ => v = .bool true) (s := s) hl (by rw [List.length_take, st.ok.v]; omega) hcl hn8 (fun i hi h => ?_) _ ?_ d2.fn g6 c6 _ _ _ _ _ _ _ _ _ _ _ _ _ _ _ _ _ _ _ _ _ _ _ _
      · rw [take_getD0 hi]
        exact st.P i (askA_zero (by omega) h)
      · intro H7 hf7 g7
        intro x0 x1 x2 x6 x8 x10 x11 x12 x13 x14 x15 x16 x17 x19 x27 x47 x65 x71 x78 x109 x115 x136 x140 x141 x142 x143 x147
        obtain ⟨H8, f1, f2, f3⟩ := ev_next_none hO hf7 (v := .sl [] .nil) (cs := []) st.ok g7 (.inl ⟨.nil, rfl⟩) (by simp [someA])
        have ok8 : ({ s with Cr := pad8 [] } : Sh).Ok := ⟨st.ok.w, pad8_len [] (by decide), st.ok.v, st.ok.n8, st.ok.a, st.ok.q1, st.ok.q2, st.ok.w1, st.ok.w2⟩
        obtain ⟨tk4, H9, i1, i2⟩ := ev_credit hO f2.fn ok8 f3
        have g9 := (i2.keep pS (f2.fn.lt f3) (fun h => h)).trans f3
        have hcr : ({ s with Cr := pad8 [] } : Sh).Cr.take ({ s with Cr := pad8 [] } : Sh).n = (pad8 []).take n := by rw [← hsn]
        rw [hcr] at i1
        have hcn : ((intRows .i64 ((pad8 []).take n)).length : Int) = (n : Int) := by rw [intRows_len, List.length_take, pad8_len [] (by decide)]; omega
        simp only [r10_28, r10_29, opn_z, opn_s, sel_z, sel_s, qCd_eq, qIf_true, qIf_false, qFn_eq, qBl_eq, qO_some, qRes_val, qHp_some, qPick_true, qPick_false, qG_tt, qG_ff, qG_tf, qG_ft, cellsK_some, qLd_vptr, qLdA_vptr, qFa_ptr, qFa_vptr, qNc_ptr, qNc_vptr, qNc_fn, qNot_bool, qExt_tup, qCallV_fn, qLss_int, qLeq_int, qGtr_int, qGeq_int, qEql_int, qNeq_int, qAdd_int, qSub_int, qMul_int, qConvI_int, qLenL_sl, qLenL_hsl, qLenS_str, foldO, min2_int, max2_int, qSame_refl, Nat.zero_add, List.getElem?_cons_zero, List.getElem?_cons_succ, List.nil_append, List.cons_append, List.append_nil, one_bool, one_int, one_str, one_nilp, one_ptr, one_sl, one_hsl, one_map, one_fn, List.length_cons, List.length_nil, List.set_cons_zero, List.set_cons_succ, Nat.reduceLT, Nat.reduceAdd, f1, i1, hcn]
        refine idle_z (Q := fun v _ => v = .bool true) (s := { s with Cr := pad8 [] }) (by rw [List.length_take, pad8_len [] (by decide)]; omega) hn8 (fun i hi => ?_) _ ?_ i2.fn g9 _ _ _ _ _ _ _ _ _ _ _ _ _ _ _ _ _ _ _ _ _ _ _ _
        · rw [take_getD0 hi]; exact pad0_getD i
        · intro H10 hf10 g10
          intro x0 x1 x2 x6 x8 x10 x11 x12 x13 x14 x15 x16 x17 x19 x27 x47 x65 x71 x78 x109 x115 x136 x140 x141 x142 x143 x147
          obtain ⟨tk5, H11, j1, j2⟩ := ev_credit hO hf10 ok8 g10
          rw [hcr] at j1
          obtain ⟨H12, k1, k2⟩ := ev_sawake hO j2.fn
          simp only [r10_35, opn_z, opn_s, sel_z, sel_s, qCd_eq, qIf_true, qIf_false, qFn_eq, qBl_eq, qO_some, qRes_val, qHp_some, qPick_true, qPick_false, qG_tt, qG_ff, qG_tf, qG_ft, cellsK_some, qLd_vptr, qLdA_vptr, qFa_ptr, qFa_vptr, qNc_ptr, qNc_vptr, qNc_fn, qNot_bool, qExt_tup, qCallV_fn, qLss_int, qLeq_int, qGtr_int, qGeq_int, qEql_int, qNeq_int, qAdd_int, qSub_int, qMul_int, qConvI_int, qLenL_sl, qLenL_hsl, qLenS_str, foldO, min2_int, max2_int, qSame_refl, Nat.zero_add, List.getElem?_cons_zero, List.getElem?_cons_succ, List.nil_append, List.cons_append, List.append_nil, one_bool, one_int, one_str, one_nilp, one_ptr, one_sl, one_hsl, one_map, one_fn, List.length_cons, List.length_nil, List.set_cons_zero, List.set_cons_succ, Nat.reduceLT, Nat.reduceAdd, j1, hcn, hwl, beq_self_eq_true, k1]
    · exact ⟨ok, hnn, rfl, by rw [hnn]; show 0 < n; omega, newSh_cb _ _ _, newSh_sb _ _ _, fun i _ => by show (pad8 []).getD i 0 = 0; exact pad0_getD i⟩

end
#print axioms ev_idle
end T
