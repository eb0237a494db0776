import Derived.Test.YtnmljkjdflfdoaaDoorS16
import Derived.IntWalk
set_option linter.all false
set_option linter.unusedVariables false
set_option linter.unusedSimpArgs false
namespace Go.Aes

/-! ### small things, at hand -/
theorem i64_in' {x : Int} (h : -9223372036854775808 ≤ x ∧ x ≤ 9223372036854775807) : IntKind.i64.wrap x = x := IntWalk.i64_in _ h
theorem wrap_up (i : Nat) (h : i < 9000000000000000000) : IntKind.i64.wrap ((i : Int) + 1) = ((i + 1 : Nat) : Int) := by
  rw [i64_in' (by omega)]; omega
theorem wrap_dn (i : Nat) (h : i < 9000000000000000000) : IntKind.i64.wrap (((i + 1 : Nat) : Int) - 1) = (i : Int) := by
  rw [i64_in' (by omega)]; omega
theorem drop_cons {α : Type} {l r : List α} {n : α} {i : Nat} (h : l.drop i = n :: r) : l[i]? = some n ∧ l.drop (i + 1) = r ∧ i < l.length := by
  have hi : i < l.length := by
    rcases Nat.lt_or_ge i l.length with h' | h'
    · exact h'
    · rw [List.drop_eq_nil_of_le h'] at h; cases h
  rw [List.drop_eq_getElem_cons hi] at h
  injection h with h1 h2
  exact ⟨by rw [List.getElem?_eq_getElem hi, h1], h2, hi⟩
theorem take_succ' {α : Type} {l : List α} {i : Nat} {x : α} (h : l[i]? = some x) : l.take (i + 1) = l.take i ++ [x] := by
  rw [List.take_add_one, h]; rfl
theorem eqL_eq (a b : List UInt8) : eqL a b = decide (a = b) := by
  rw [Bool.eq_iff_iff]; simp [eqL_spec]
theorem slice_whole (l : List AV) (n : Nat) (h : l.length = n) : slice? l 0 n = some l := by
  subst h; simp [slice?]
theorem setRange_whole (cs l : List AV) (h : cs.length = l.length) : setRange cs 0 l = some l := by
  unfold setRange
  have : (0 + l.length).ble cs.length = true := by simp; omega
  rw [this]
  simp
  omega

section
variable {R : Type} [Mon R]
theorem qEql_str (X : Cx) (t : Nat) (a b : List UInt8) (k : AV → R) : qEql X t (.str a) (.str b) k = k (.bool (decide (a = b))) := by
  rw [← eqL_eq]; rfl
theorem qNeq_str (X : Cx) (t : Nat) (a b : List UInt8) (k : AV → R) : qNeq X t (.str a) (.str b) k = k (.bool (!decide (a = b))) := by
  rw [← eqL_eq]; rfl
theorem qAdd_str (X : Cx) (t : Nat) (a b : List UInt8) (h : a.length + b.length < most) (k : AV → R) : qAdd X t (.str a) (.str b) k = k (.str (a ++ b)) := by
  have : (a.length + b.length).blt most = true := by rw [Nat.blt_eq]; exact h
  unfold qAdd intsK
  show qO (strOp .add a b) k = _
  unfold strOp
  rw [this]; rfl
theorem qIx_str {s : List UInt8} {i : Nat} {b : UInt8} (h : s[i]? = some b) (kd : IntKind) (k : AV → R) : qIx (.str s) (.int kd (i : Int)) k = k (.int .u8 b.toNat) := by
  unfold qIx
  rw [natK_nat]
  simp [h, qO]
theorem qG_un (w : Bool) (A : (AV → AH → R) → R) (H : AH) (k : AV → AH → R) : qG undef w A H k = k undef H := rfl
theorem qIx_0 (b : UInt8) (s : List UInt8) (kd : IntKind) (k : AV → R) : qIx (.str (b :: s)) (.int kd 0) k = k (.int .u8 b.toNat) := rfl
theorem qSt_whole {H : AH} [IsFn H] {i n : Nat} {cs l : List AV} (hg : H.get i = some (.cells cs)) (hc : cs.length = n) (hl : l.length = n) (ha : allOne l = true) (k : AV → AH → R) :
    qSt n (.ptr i 0) (.agg l) H k = k undef (H.set i (some (.cells l))) := by
  have hn : l.length.beq n = true := by rw [hl]; exact Nat.beq_refl n
  have hb : (l.length.beq n && allOne l && H.okI i) = true := by
    rw [hn, ha, okI_i (lt_i hg)]; rfl
  rw [qSt_ptr, cells_agg]
  simp only [hb, cond_true, hg, stK_some, setRange_whole cs l (by rw [hc, hl]), qO_some]
theorem qSt_1 {H : AH} [IsFn H] {i o : Nat} {cs : List AV} {v : AV} (hg : H.get i = some (.cells cs)) (ho : o < cs.length) (hv : one v = true) (k : AV → AH → R) :
    qSt 1 (.ptr i o) v H k = k undef (H.set i (some (.cells (cs.set o v)))) := by
  have hc := one_cells hv
  have hb : (v.cells.length.beq 1 && allOne v.cells && H.okI i) = true := by
    rw [hc, okI_i (lt_i hg)]
    simp [allOne, hv]
  rw [qSt_ptr]
  simp only [hb, cond_true, hg, stK_some]
  rw [hc, setRange_one cs o v ho, qO_some]
theorem qLdA_whole {H : AH} {i n : Nat} {cs : List AV} (hg : H.get i = some (.cells cs)) (hc : cs.length = n) (k : AV → R) : qLdA n (.ptr i 0) H k = k (.agg cs) := by
  rw [qLdA_ptr, hg, cellsK_some, slice_whole cs n hc, qO_some]
theorem ldA {H : AH} {i n : Nat} {cs l : List AV} (hg : H.get i = some (.cells cs)) (o : Nat) (hc : slice? cs o n = some l) (k : AV → R) : qLdA n (.ptr i o) H k = k (.agg l) := by
  rw [qLdA_ptr, hg, cellsK_some, hc, qO_some]
theorem ld1 {H : AH} {i : Nat} {cs : List AV} (hg : H.get i = some (.cells cs)) (o : Nat) (v : AV) (h : cs[o]? = some v) (k : AV → R) : qLd (.ptr i o) H k = k v := by
  rw [qLd_ptr, hg, cellsK_some, h, qO_some]
theorem ldO {H : AH} {i t j : Nat} {cs : List AV} (hg : H.get i = some (.obj t j cs)) (o : Nat) (v : AV) (h : cs[o]? = some v) (k : AV → R) : qLd (.ptr i o) H k = k v := by
  rw [qLd_ptr, hg, cellsK_obj, h, qO_some]
theorem qIa_rows {rows : List (List AV)} {tk : Tk} {n i : Nat} {r : List AV} (h : rows[i]? = some r) (hl : r.length = n) (k : AV → R) : qIa n (.sl rows tk) (.int .i64 (i : Int)) k = k (.vptr r 0) :=
  qIa_sl .i64 k n rows tk i r h hl

/-- a new block, written whole -/
theorem boxK {Hs H : AH} [IsFn H] (e : Kp Hs H (fun _ => False)) {n : Nat} (cs0 row : List AV) (h0 : cs0.length = n) (h1 : row.length = n) (h2 : allOne row = true) :
    ∃ b H0 H1, (∀ k : AV → AH → R, qNew (.cells cs0) .ptr H k = k (.ptr b 0) H0) ∧ (∀ k : AV → AH → R, qSt n (.ptr b 0) (.agg row) H0 k = k undef H1) ∧ H1.get b = some (.cells row) ∧ Hs.nx ≤ b ∧
      Kp Hs H1 (fun _ => False) ∧ (∀ j cs, H.get j = some (.cells cs) → H1.get j = some (.cells cs) ∧ j ≠ b) := by
  have hat := get_push_at (H := H) (.cells cs0)
  have hnx := e.nx
  refine ⟨H.nx, H.push (.cells cs0), _, fun k => by rw [qNew_i, wr_ptr], fun k => qSt_whole hat h0 h1 h2 k, ?_, hnx, ⟨inferInstance, by rw [AH.nx_set, nx_push_i]; omega, fun j hj _ => ?_⟩, fun j cs hj => ?_⟩
  · rw [get_set_i (by rw [nx_push_i]; omega), if_pos rfl]
  · rw [get_set_i (by rw [nx_push_i]; omega), if_neg (by omega), get_push_lt _ (by omega)]
    exact e.keep j hj (fun h => h)
  · have := lt_i hj
    exact ⟨by rw [get_set_i (by rw [nx_push_i]; omega), if_neg (by omega), get_push_lt _ this]; exact hj, by omega⟩
end
end Go.Aes
