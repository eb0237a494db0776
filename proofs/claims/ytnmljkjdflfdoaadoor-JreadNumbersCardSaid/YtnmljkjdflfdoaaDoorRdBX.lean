import Derived.Test.YtnmljkjdflfdoaaDoorRdX
import Derived.Lib.MapLaws
import Derived.Lib.ValidLaws
import Derived.Lib.RuneBytes
set_option linter.all false
set_option linter.unusedVariables false
set_option linter.unusedSimpArgs false
set_option maxRecDepth 10000
namespace T
open Go Go.Aes Go.Proofs

/-! ### a builder -/
def bys (s : Str) : List AV := s.map fun b => .int .u8 b.toNat
def byR (s : Str) : List (List AV) := s.map fun b => [.int .u8 b.toNat]
theorem byR_flat : ∀ s : Str, (byR s).flatten = bys s
  | [] => rfl
  | b :: s => by
    show [AV.int .u8 b.toNat] ++ (byR s).flatten = _
    rw [byR_flat s]
    rfl
theorem bys_len (s : Str) : (bys s).length = s.length := by simp [bys]
theorem byR_len (s : Str) : (byR s).length = s.length := by simp [byR]
theorem bys_app (a b : Str) : bys a ++ bys b = bys (a ++ b) := by simp [bys]
theorem bys_one : ∀ s : Str, allOne (bys s) = true
  | [] => rfl
  | b :: s => by
    have := bys_one s
    simp only [bys, List.map_cons, allOne_cons, one_int, Bool.true_and] at this ⊢
    exact this
theorem bytesK_bys : ∀ s : Str, bytesK (bys s) = some s
  | [] => rfl
  | b :: s => by
    have h := bytesK_bys s
    have hb := b.toNat_lt
    simp only [bys, List.map_cons, bytesK] at h ⊢
    rw [h]
    have e1 : decide (0 ≤ (b.toNat : Int)) = true := by simp
    have e2 : decide ((b.toNat : Int) < 256) = true := by simp; omega
    rw [e1, e2]
    simp

/-- a row of bytes that is appended to -/
def Bf (H : AH) (v : AV) (s : Str) : Prop := (s = [] ∧ v = .sl [] .nil) ∨ (s ≠ [] ∧ ∃ j, v = .hsl j 0 s.length s.length 1 true ∧ H.get j = some (.obj 5 1 (bys s)))
structure Bd (H : AH) (b : Nat) (s : Str) (a v : AV) : Prop where
  get : H.get b = some (.obj 93 0 [a, v])
  own : a = .nilp ∨ a = .ptr b 0
  row : Bf H v s
/-- all but rows of bytes and the builder stay -/
def Bk (H H' : AH) (b : Nat) : Prop := ∀ i o, i ≠ b → H.get i = some o → (∀ k cs, o ≠ .obj 5 k cs) → H'.get i = some o
theorem Bk.refl (H : AH) (b : Nat) : Bk H H b := fun _ _ _ h _ => h
theorem Bk.trans {H H1 H2 : AH} {b : Nat} (h : Bk H H1 b) (k : Bk H1 H2 b) : Bk H H2 b := fun i o hi hg hn => k i o hi (h i o hi hg hn) hn

theorem Bf.one {H : AH} {v : AV} {s : Str} (h : Bf H v s) : one v = true := by
  rcases h with ⟨_, rfl⟩ | ⟨_, j, rfl, _⟩ <;> rfl
theorem Bf.keep {H H' : AH} {v : AV} {s : Str} (h : Bf H v s) (k : ∀ j cs, H.get j = some (.obj 5 1 cs) → H'.get j = some (.obj 5 1 cs)) : Bf H' v s := by
  rcases h with h | ⟨h1, j, h2, h3⟩
  · exact .inl h
  · exact .inr ⟨h1, j, h2, k _ _ h3⟩

theorem app_bf {H : AH} [IsFn H] {v x : AV} {t s : Str} (h : Bf H v t) (hx : readRows 1 x H = some (byR s)) (hl : t.length + s.length < 100000000000) :
    ∃ v' H', (∀ k : AV → AH → Prop, qApp 1 1 v x true (some 5) H k = k v' H') ∧ Bf H' v' (t ++ s) ∧ IsFn H' ∧ H.nx ≤ H'.nx ∧ (∀ i o, H.get i = some o → (∀ k cs, o ≠ .obj 5 k cs) → H'.get i = some o) := by
  have hem : (byR s).isEmpty = s.isEmpty := by cases s <;> rfl
  by_cases hs : s = []
  · subst hs
    refine ⟨v, H, fun k => ?_, by rw [List.append_nil]; exact h, inferInstance, Nat.le_refl _, fun i o hg _ => hg⟩
    have : app 1 1 v x true (some 5) H = some (v, H) := by
      unfold app
      rw [hx]
      rcases h with ⟨rfl, rfl⟩ | ⟨hne, j, rfl, hg⟩
      · rfl
      · have hb : ((t.length + 0) * (1 + 1)).blt most = true := by rw [Nat.blt_eq]; unfold most; omega
        have ho := okI_i (lt_i hg)
        have hb' : ((t.length + (byR ([] : Str)).length) * (1 + 1)).blt most = true := hb
        simp only [hb', ho]
        rfl
    unfold qApp
    rw [this, qHp_some]
  · have he : (byR s).isEmpty = false := by rw [hem]; cases s with
      | nil => exact absurd rfl hs
      | cons b s => rfl
    have hfl : allOne (byR s).flatten = true := by rw [byR_flat]; exact bys_one s
    rcases h with ⟨rfl, rfl⟩ | ⟨hne, j, rfl, hg⟩
    · refine ⟨_, _, fun k => ?_, .inr ⟨by simpa using hs, H.nx, rfl, get_push_at _⟩, inferInstance, by rw [nx_push_i]; omega, fun i o hi _ => by rw [get_push_lt _ (lt_i hi)]; exact hi⟩
      have hb : (s.length * (1 + 1)).blt most = true := by rw [Nat.blt_eq]; unfold most; simp at hl; omega
      have hap : app 1 1 (.sl [] .nil) x true (some 5) H = some (.hsl H.nx 0 s.length s.length 1 true, H.push (.obj 5 1 (bys s))) := by
        unfold app
        rw [hx]
        simp only [hb, he, new_i, AO.mkT, List.nil_append, byR_flat, List.length_nil, Nat.zero_add, byR_len]
        rfl
      unfold qApp
      rw [hap, qHp_some]
      rfl
    · have htl := lt_i hg
      have hb : ((t.length + s.length) * (1 + 1)).blt most = true := by rw [Nat.blt_eq]; unfold most; omega
      have hsl : slice? (bys t) 0 (t.length * 1) = some (bys t) := slice_whole _ _ (by rw [bys_len]; omega)
      have hap : app 1 1 (.hsl j 0 t.length t.length 1 true) x true (some 5) H = some (.hsl H.nx 0 (t.length + s.length) (t.length + s.length) 1 true, (H.set j none).push (.obj 5 1 (bys (t ++ s)))) := by
        unfold app
        rw [hx]
        have e1 : AO.unT (some 5) (.obj 5 1 (bys t)) = some (bys t) := rfl
        simp only [hb, okI_i htl, bys_one, he, hg, e1, hsl, new_i, AO.mkT, byR_flat, bys_app, byR_len, AH.nx_set]
        rfl
      refine ⟨_, (H.set j none).push (.obj 5 1 (bys (t ++ s))), fun k => ?_, .inr ⟨by simp [hne], H.nx, by rw [List.length_append], ?_⟩, inferInstance, by rw [nx_push_i, AH.nx_set]; omega, fun i o hi hn => ?_⟩
      · unfold qApp
        rw [hap, qHp_some]
      · have := get_push_at (H := H.set j none) (.obj 5 1 (bys (t ++ s)))
        rwa [AH.nx_set] at this
      · have hij : i ≠ j := by
          rintro rfl
          rw [hg] at hi
          injection hi with hi
          exact hn _ _ hi.symm
        rw [get_push_lt _ (by rw [AH.nx_set]; exact lt_i hi), get_set_i htl, if_neg hij]
        exact hi

theorem qSt_obj {H : AH} [IsFn H] {i o t : Nat} {cs : List AV} {v : AV} (hg : H.get i = some (.obj t 0 cs)) (ho : o < cs.length) (hv : one v = true) (k : AV → AH → Prop) :
    qSt 1 (.ptr i o) v H k = k Aes.undef (H.set i (some (.obj t 0 (cs.set o v)))) := by
  have hc := one_cells hv
  have hb : (v.cells.length.beq 1 && allOne v.cells && H.okI i) = true := by
    rw [hc, okI_i (lt_i hg)]
    simp [allOne, hv]
  rw [qSt_ptr]
  simp only [hb, cond_true, hg, stK_obj]
  rw [hc, setRange_one cs o v ho, qO_some]

/-- the copy check -/
theorem ep75 {H : AH} [IsFn H] {b : Nat} {s : Str} {a v : AV} (h : Bd H b s a v) : ∃ H', EP 77 [.ptr b 0] H = some (.val Aes.undef H') ∧ Bd H' b s (.ptr b 0) v ∧ IsFn H' ∧ H.nx ≤ H'.nx ∧ Bk H H' b := by
  have hlt := lt_i h.get
  rcases h.own with rfl | rfl
  · refine ⟨H.set b (some (.obj 93 0 [.ptr b 0, v])), evO_O rfl ?_, ⟨by rw [get_set_i hlt, if_pos rfl], .inr rfl, h.row.keep fun j cs hj => ?_⟩, inferInstance, by rw [AH.nx_set]; omega, fun i o hi hg _ => by rw [get_set_i hlt, if_neg hi]; exact hg⟩
    · have : OF2 77 [.ptr b 0] H = oCC [.ptr b 0] H := rfl
      rw [this]
      simp only [oCC, h.get, okI_i hlt]
      rfl
    · rw [get_set_i hlt, if_neg (by rintro rfl; rw [h.get] at hj; cases hj)]
      exact hj
  · refine ⟨H, evO_O rfl ?_, h, inferInstance, Nat.le_refl _, .refl _ _⟩
    have : OF2 77 [.ptr b 0] H = oCC [.ptr b 0] H := rfl
    rw [this]
    simp only [oCC, h.get, Nat.beq_refl]
    rfl

theorem bd_app {H : AH} [IsFn H] {b : Nat} {t s : Str} {a v x : AV} (h : Bd H b t a v) (hx : readRows 1 x H = some (byR s)) (hl : t.length + s.length < 100000000000) :
    ∃ v' H1 H', (∀ k : AV → AH → Prop, qApp 1 1 v x true (some 5) H k = k v' H1) ∧ (∀ k : AV → AH → Prop, qSt 1 (.ptr b 1) v' H1 k = k Aes.undef H') ∧ Bd H' b (t ++ s) a v' ∧ IsFn H' ∧ H.nx ≤ H'.nx ∧ Bk H H' b := by
  obtain ⟨v', H1, a1, a2, a3, a4, a5⟩ := app_bf h.row hx hl
  have g1 := a5 b _ h.get (fun k cs e => by cases e)
  have hlt := lt_i g1
  refine ⟨v', H1, _, a1, fun k => qSt_obj g1 (by simp) a2.one k, ⟨by rw [get_set_i hlt, if_pos rfl]; rfl, h.own, a2.keep fun j cs hj => ?_⟩, inferInstance, by rw [AH.nx_set]; exact a4, fun i o hi hg hn => ?_⟩
  · rw [get_set_i hlt, if_neg (by rintro rfl; rw [g1] at hj; cases hj)]; exact hj
  · rw [get_set_i hlt, if_neg hi]; exact a5 i o hg hn

/-- what a write does -/
def Wrote (g : Nat) (al : List AV) (b : Nat) (s : Str) : Prop := ∀ (H : AH) [IsFn H] (t : Str) (a v : AV), Bd H b t a v → t.length + s.length < 100000000000 →
  ∃ H' w a' v', EP g al H = some (.val w H') ∧ Bd H' b (t ++ s) a' v' ∧ IsFn H' ∧ H.nx ≤ H'.nx ∧ Bk H H' b

theorem wr53 (b : Nat) (s : Str) : Wrote 92 [.ptr b 0, .str s] b s := by
  intro H _ t a v h hl
  obtain ⟨H1, e77, h1, f1, n1, k1⟩ := ep75 h
  obtain ⟨v', H2, H3, q1, q2, h3, f3, n3, k3⟩ := bd_app (x := .str s) h1 rfl hl
  have l1 := fun k => ldO (R := Prop) h1.get 1 _ rfl k
  have la : (bys s).length = s.length := bys_len s
  obtain ⟨w, H', e, hq⟩ := ao_form (X := X) (D := OD2) (O := OF2) (S := PS) (al := [.ptr b 0, .str s]) (H := H) e92 xf92 rfl rfl (Q := fun w H' => ∃ a' v', Bd H' b (t ++ s) a' v' ∧ IsFn H' ∧ H.nx ≤ H'.nx ∧ Bk H H' b) (by
    simp -implicitDefEqProofs only [c92, r92_0, r92_1, r92_2, r92_3, opn_z, opn_s, sel_z, sel_s, qCd_eq, qIf_true, qIf_false, qFn_eq, qBl_eq, qO_some, qRes_val, qHp_some, qPick_true, qPick_false, qG_tt, qG_ff, qG_tf, qG_ft, cellsK_some, qLd_vptr, qLdA_vptr, qFa_ptr, qFa_vptr, qNc_ptr, qNc_vptr, qNc_fn, qNot_bool, qExt_tup, qCallV_fn, qLss_int, qLeq_int, qGtr_int, qGeq_int, qEql_int, qNeq_int, qAdd_int, qSub_int, qMul_int, qConvI_int, qLenL_sl, qLenL_hsl, qLenS_str, foldO, min2_int, max2_int, qSame_refl, Nat.zero_add, List.getElem?_cons_zero, List.getElem?_cons_succ, List.nil_append, List.cons_append, List.append_nil, one_bool, one_int, one_str, one_nilp, one_ptr, one_sl, one_hsl, one_map, one_fn, List.length_cons, List.length_nil, List.set_cons_zero, List.set_cons_succ, Nat.reduceLT, Nat.reduceAdd, qG_un, qResN_val, qCallVN_fn, e77, l1, q1, q2]
    exact ⟨_, _, h3, f3, by omega, k1.trans k3⟩)
  obtain ⟨a', v'', hh, f, n, k⟩ := hq
  exact ⟨H', w, a', v'', e, hh, f, n, k⟩

theorem rows5 (c : UInt8) (k : AV → Prop) : qRows z5 1 [(0, .int .u8 c.toNat)] k = k (.sl [[.int .u8 c.toNat]] .full) := rfl
theorem wr51 (b : Nat) (c : UInt8) : Wrote 66 [.ptr b 0, .int .u8 (c.toNat : Int)] b [c] := by
  intro H _ t a v h hl
  obtain ⟨H1, e77, h1, f1, n1, k1⟩ := ep75 h
  obtain ⟨v', H2, H3, q1, q2, h3, f3, n3, k3⟩ := bd_app (x := .sl [[.int .u8 c.toNat]] .full) (s := [c]) h1 rfl hl
  have l1 := fun k => ldO (R := Prop) h1.get 1 _ rfl k
  obtain ⟨w, H', e, hq⟩ := ao_form (X := X) (D := OD2) (O := OF2) (S := PS) (al := [.ptr b 0, .int .u8 (c.toNat : Int)]) (H := H) e66 xf66 rfl rfl (Q := fun w H' => ∃ a' v', Bd H' b (t ++ [c]) a' v' ∧ IsFn H' ∧ H.nx ≤ H'.nx ∧ Bk H H' b) (by
    simp -implicitDefEqProofs only [c66, r66_0, r66_1, r66_2, r66_3, opn_z, opn_s, sel_z, sel_s, qCd_eq, qIf_true, qIf_false, qFn_eq, qBl_eq, qO_some, qRes_val, qHp_some, qPick_true, qPick_false, qG_tt, qG_ff, qG_tf, qG_ft, cellsK_some, qLd_vptr, qLdA_vptr, qFa_ptr, qFa_vptr, qNc_ptr, qNc_vptr, qNc_fn, qNot_bool, qExt_tup, qCallV_fn, qLss_int, qLeq_int, qGtr_int, qGeq_int, qEql_int, qNeq_int, qAdd_int, qSub_int, qMul_int, qConvI_int, qLenL_sl, qLenL_hsl, qLenS_str, foldO, min2_int, max2_int, qSame_refl, Nat.zero_add, List.getElem?_cons_zero, List.getElem?_cons_succ, List.nil_append, List.cons_append, List.append_nil, one_bool, one_int, one_str, one_nilp, one_ptr, one_sl, one_hsl, one_map, one_fn, List.length_cons, List.length_nil, List.set_cons_zero, List.set_cons_succ, Nat.reduceLT, Nat.reduceAdd, qG_un, qResN_val, qCallVN_fn, e77, l1, rows5, q1, q2]
    exact ⟨_, _, h3, f3, by omega, k1.trans k3⟩)
  obtain ⟨a', v'', hh, f, n, k⟩ := hq
  exact ⟨H', w, a', v'', e, hh, f, n, k⟩

theorem ep48 {H : AH} [IsFn H] {b : Nat} {s : Str} {a v : AV} (h : Bd H b s a v) (hl : s.length < 100000000000) : ∃ H', EP 67 [.ptr b 0] H = some (.val (.str s) H') ∧ IsFn H' ∧ H.nx ≤ H'.nx ∧ Bk H H' b := by
  have e : OF2 67 [.ptr b 0] H = oStr [.ptr b 0] H := rfl
  rcases h.row with ⟨rfl, rfl⟩ | ⟨hne, j, rfl, hg⟩
  · refine ⟨H, evO_O rfl ?_, inferInstance, Nat.le_refl _, .refl _ _⟩
    rw [e]
    simp only [oStr, h.get]
    rfl
  · have hlt := lt_i hg
    refine ⟨H.set j (some (.obj 5 2 (bys s))), evO_O rfl ?_, inferInstance, by rw [AH.nx_set]; omega, fun i o hi hgo hn => ?_⟩
    · rw [e]
      have h1 : s.length.beq 0 = false := by cases s with
        | nil => exact absurd rfl hne
        | cons b s => rfl
      have h2 : s.length.ble (bys s).length = true := by rw [bys_len]; simp
      have h3 : s.length.ble 9223372036854775807 = true := by rw [Nat.ble_eq]; omega
      have h4 : (bys s).take s.length = bys s := List.take_of_length_le (by rw [bys_len]; omega)
      simp only [oStr, h.get, hg, h1, h2, h3, okI_i hlt, h4, bytesK_bys, Nat.beq_refl]
      rfl
    · rw [get_set_i hlt, if_neg]
      · exact hgo
      · rintro rfl
        rw [hg] at hgo
        injection hgo with hgo
        exact hn _ _ hgo.symm
end T
set_option linter.unusedVariables false
set_option linter.unusedSimpArgs false
set_option maxRecDepth 10000
namespace T
open Go Go.Aes Go.Proofs

/-! ### a rune's bytes are written -/
theorem shr_i32 (a : Int) (s : Nat) (hs : s ≤ 31) : binop X .shr 21 (.int .i32 a) (.int .u64 (s : Int)) = some (.int .i32 (a / 2 ^ s)) := by
  show ofSem (Op.shift .shr .i32 a .u64 (s : Int)) = _
  rw [shift_shr .i32 .u64 a (s : Int) (by omega) (by show (s : Int) ≤ 32; omega)]
  simp only [Int.toNat_natCast]
  rfl
theorem and_u8 (a b : Int) : binop X .and 5 (.int .u8 a) (.int .u8 b) = some (.int .u8 (bits .and .u8 a b)) := rfl
theorem or_u8 (a b : Int) : binop X .or 5 (.int .u8 a) (.int .u8 b) = some (.int .u8 (bits .or .u8 a b)) := rfl
theorem and63 : ∀ x : Fin 256, bits .and .u8 (x.val : Int) 63 = ((x.val % 64 : Nat) : Int) := by decide +kernel
theorem or128 : ∀ x : Fin 64, bits .or .u8 128 (x.val : Int) = ((128 + x.val : Nat) : Int) := by decide +kernel
theorem or192 : ∀ x : Fin 32, bits .or .u8 192 (x.val : Int) = ((192 + x.val : Nat) : Int) := by decide +kernel
theorem or224 : ∀ x : Fin 16, bits .or .u8 224 (x.val : Int) = ((224 + x.val : Nat) : Int) := by decide +kernel
theorem or240 : ∀ x : Fin 8, bits .or .u8 240 (x.val : Int) = ((240 + x.val : Nat) : Int) := by decide +kernel
theorem wrap_u8 (r : Nat) : IntKind.u8.wrap (r : Int) = ((r % 256 : Nat) : Int) := by
  show ((r : Int) % 2 ^ 8) = _
  omega
/-- a byte that follows -/
theorem tail_b (r : Nat) : bits .or .u8 128 (bits .and .u8 (IntKind.u8.wrap (r : Int)) 63) = ((128 + r % 64 : Nat) : Int) := by
  have h1 := and63 ⟨r % 256, Nat.mod_lt _ (by omega)⟩
  have h2 := or128 ⟨r % 64, Nat.mod_lt _ (by omega)⟩
  simp only at h1 h2
  rw [wrap_u8, h1, show r % 256 % 64 = r % 64 by omega, h2]

def okR (r : Nat) : Prop := r < 55296 ∨ (57343 < r ∧ r ≤ 1114111)
def encR (r : Nat) : Str := Lib.encodeRune (r : Int)
theorem enc1 {r : Nat} (h : r < 128) : bys (encR r) = [.int .u8 (r : Int)] := by
  unfold encR Lib.encodeRune
  rw [Lib.encodeRuneZ_one (by omega) (by omega)]
  simp [bys]; omega
theorem enc2 {r : Nat} (h : 128 ≤ r) (h2 : r < 2048) : bys (encR r) = [.int .u8 ((192 + r / 64 : Nat) : Int), .int .u8 ((128 + r % 64 : Nat) : Int)] := by
  unfold encR Lib.encodeRune
  rw [Lib.encodeRuneZ_two (by omega) (by omega)]
  simp [bys]; omega
theorem enc3 {r : Nat} (h : 2048 ≤ r) (h2 : r < 65536) (hv : okR r) : bys (encR r) = [.int .u8 ((224 + r / 4096 : Nat) : Int), .int .u8 ((128 + r / 64 % 64 : Nat) : Int), .int .u8 ((128 + r % 64 : Nat) : Int)] := by
  unfold okR at hv
  unfold encR Lib.encodeRune
  rw [Lib.encodeRuneZ_three (by omega)]
  simp [bys]; omega
theorem enc4 {r : Nat} (h : 65536 ≤ r) (h2 : r ≤ 1114111) : bys (encR r) = [.int .u8 ((240 + r / 262144 : Nat) : Int), .int .u8 ((128 + r / 4096 % 64 : Nat) : Int), .int .u8 ((128 + r / 64 % 64 : Nat) : Int), .int .u8 ((128 + r % 64 : Nat) : Int)] := by
  unfold encR Lib.encodeRune
  rw [Lib.encodeRuneZ_four (by omega) (by omega)]
  simp [bys]; omega
theorem encR_len (r : Nat) : (encR r).length ≤ 4 := by
  unfold encR Lib.encodeRune
  have := (Lib.encodeRuneZ_length (r : Int)).2
  simpa using this

def rowsB (l : List AV) : List (List AV) := l.map fun a => [a]
theorem rowsB_bys (s : Str) : rowsB (bys s) = byR s := by simp [rowsB, bys, byR, Function.comp_def]

theorem row1 (a : Int) (k : AV → Prop) : qRows z5 1 [(0, .int .u8 a)] k = k (.sl [[.int .u8 a]] .full) := rfl
theorem row2 (a b : Int) (k : AV → Prop) : qRows z5 2 [(0, .int .u8 a), (1, .int .u8 b)] k = k (.sl [[.int .u8 a], [.int .u8 b]] .full) := rfl
theorem row3 (a b c : Int) (k : AV → Prop) : qRows z5 3 [(0, .int .u8 a), (1, .int .u8 b), (2, .int .u8 c)] k = k (.sl [[.int .u8 a], [.int .u8 b], [.int .u8 c]] .full) := rfl
theorem row4 (a b c d : Int) (k : AV → Prop) : qRows z5 4 [(0, .int .u8 a), (1, .int .u8 b), (2, .int .u8 c), (3, .int .u8 d)] k = k (.sl [[.int .u8 a], [.int .u8 b], [.int .u8 c], [.int .u8 d]] .full) := rfl

theorem wrap_u32 {r : Nat} (h : r ≤ 1114111) : IntKind.u32.wrap (r : Int) = (r : Int) := by
  show ((r : Int) % 2 ^ 32) = _
  omega

/-- appended to a row of bytes -/
def Apd (g : Nat) (r : Nat) : Prop := ∀ (H : AH) [IsFn H] (t : Str) (v : AV), Bf H v t → t.length + 4 < 100000000000 →
  ∃ v' H', EP g [v, .int .i32 (r : Int)] H = some (.val v' H') ∧ Bf H' v' (t ++ encR r) ∧ IsFn H' ∧ H.nx ≤ H'.nx ∧ (∀ i o, H.get i = some o → (∀ k cs, o ≠ .obj 5 k cs) → H'.get i = some o)

theorem sh6 (r : Nat) : ((r : Int) / 2 ^ 6) = ((r / 64 : Nat) : Int) := by omega
theorem sh12 (r : Nat) : ((r : Int) / 2 ^ 12) = ((r / 4096 : Nat) : Int) := by omega
theorem sh18 (r : Nat) : ((r : Int) / 2 ^ 18) = ((r / 262144 : Nat) : Int) := by omega

theorem ap95 (r : Nat) (h : 128 ≤ r) (hv : okR r) : Apd 86 r := by
  intro H _ t v hb hl
  unfold okR at hv
  have hx : ∀ l, bys (encR r) = l → readRows 1 (.sl (rowsB l) .full) H = some (byR (encR r)) := by
    rintro l rfl
    rw [rowsB_bys]
    simp only [readRows]
    have : ((byR (encR r)).all fun r => r.length.beq 1) = true := by
      rw [List.all_eq_true]
      intro x hx
      obtain ⟨y, _, rfl⟩ := List.mem_map.1 hx
      rfl
    rw [this]; rfl
  have hle := encR_len r
  have s6 : binop X .shr 21 (.int .i32 (r : Int)) (.int .u64 6) = some (.int .i32 ((r / 64 : Nat) : Int)) := by rw [← sh6]; exact shr_i32 (r : Int) 6 (by omega)
  have s12 : binop X .shr 21 (.int .i32 (r : Int)) (.int .u64 12) = some (.int .i32 ((r / 4096 : Nat) : Int)) := by rw [← sh12]; exact shr_i32 (r : Int) 12 (by omega)
  have s18 : binop X .shr 21 (.int .i32 (r : Int)) (.int .u64 18) = some (.int .i32 ((r / 262144 : Nat) : Int)) := by rw [← sh18]; exact shr_i32 (r : Int) 18 (by omega)
  have wu := wrap_u32 (r := r) (by omega)
  have t0 := tail_b r
  have t1 := tail_b (r / 64)
  have t2 := tail_b (r / 4096)
  have fin : ∀ l, bys (encR r) = l → ∃ v' H', (∀ k : AV → AH → Prop, qApp 1 1 v (.sl (rowsB l) .full) true (some 5) H k = k v' H') ∧ Bf H' v' (t ++ encR r) ∧ IsFn H' ∧ H.nx ≤ H'.nx ∧ (∀ i o, H.get i = some o → (∀ k cs, o ≠ .obj 5 k cs) → H'.get i = some o) :=
    fun l hl' => app_bf hb (hx l hl') (by omega)
  have hfr : (PS 86 && AV.frees (AV.kills [v, .int .i32 (r : Int)])) = false := rfl
  by_cases h2 : r < 2048
  · obtain ⟨v', H', q, a2, a3, a4, a5⟩ := fin _ (enc2 h h2)
    simp only [rowsB, List.map_cons, List.map_nil] at q
    have b0 : bits .or .u8 192 (IntKind.u8.wrap ((r / 64 : Nat) : Int)) = ((192 + r / 64 : Nat) : Int) := by
      rw [wrap_u8, Nat.mod_eq_of_lt (by omega)]; exact or192 ⟨r / 64, by omega⟩
    have c1 : (r : Int) ≤ 2047 := by omega
    refine ⟨v', H', ao_form_eq (X := X) (D := OD2) (O := OF2) (S := PS) e86 xf86 rfl hfr ?_, a2, a3, a4, a5⟩
    simp -implicitDefEqProofs only [c86, r86_0, r86_1, r86_3, r86_4, opn_z, opn_s, sel_z, sel_s, qCd_eq, qIf_true, qIf_false, qFn_eq, qBl_eq, qO_some, qRes_val, qHp_some, qPick_true, qPick_false, qG_tt, qG_ff, qG_tf, qG_ft, cellsK_some, qLd_ptr, qLd_vptr, qLdA_ptr, qLdA_vptr, qFa_ptr, qFa_vptr, qNc_ptr, qNc_vptr, qNc_fn, qNot_bool, qExt_tup, qCallV_fn, qLss_int, qLeq_int, qGtr_int, qGeq_int, qEql_int, qNeq_int, qAdd_int, qSub_int, qMul_int, qConvI_int, qLenL_sl, qLenL_hsl, qLenS_str, foldO, min2_int, max2_int, qSame_refl, Nat.zero_add, List.getElem?_cons_zero, List.getElem?_cons_succ, List.nil_append, List.cons_append, List.append_nil, one_bool, one_int, one_str, one_nilp, one_ptr, one_sl, one_hsl, one_map, one_fn, List.length_cons, List.length_nil, List.set_cons_zero, List.set_cons_succ, Nat.reduceLT, Nat.reduceAdd, qG_un, qResN_val, qCallVN_fn, wu, c1, decide_true, s6, or_u8, and_u8, b0, t0, row2, q, and_self]
  have n2 : ¬ (r : Int) ≤ 2047 := by omega
  by_cases h3 : r < 65536
  · obtain ⟨v', H', q, a2, a3, a4, a5⟩ := fin _ (enc3 (by omega) h3 hv)
    simp only [rowsB, List.map_cons, List.map_nil] at q
    have b0 : bits .or .u8 224 (IntKind.u8.wrap ((r / 4096 : Nat) : Int)) = ((224 + r / 4096 : Nat) : Int) := by
      rw [wrap_u8, Nat.mod_eq_of_lt (by omega)]; exact or224 ⟨r / 4096, by omega⟩
    refine ⟨v', H', ao_form_eq (X := X) (D := OD2) (O := OF2) (S := PS) e86 xf86 rfl hfr ?_, a2, a3, a4, a5⟩
    by_cases h4 : r < 55296
    · have c1003 : (r : Int) < 55296 := by omega
      simp -implicitDefEqProofs only [c86, r86_0, r86_1, r86_3, r86_5, r86_7, opn_z, opn_s, sel_z, sel_s, qCd_eq, qIf_true, qIf_false, qFn_eq, qBl_eq, qO_some, qRes_val, qHp_some, qPick_true, qPick_false, qG_tt, qG_ff, qG_tf, qG_ft, cellsK_some, qLd_ptr, qLd_vptr, qLdA_ptr, qLdA_vptr, qFa_ptr, qFa_vptr, qNc_ptr, qNc_vptr, qNc_fn, qNot_bool, qExt_tup, qCallV_fn, qLss_int, qLeq_int, qGtr_int, qGeq_int, qEql_int, qNeq_int, qAdd_int, qSub_int, qMul_int, qConvI_int, qLenL_sl, qLenL_hsl, qLenS_str, foldO, min2_int, max2_int, qSame_refl, Nat.zero_add, List.getElem?_cons_zero, List.getElem?_cons_succ, List.nil_append, List.cons_append, List.append_nil, one_bool, one_int, one_str, one_nilp, one_ptr, one_sl, one_hsl, one_map, one_fn, List.length_cons, List.length_nil, List.set_cons_zero, List.set_cons_succ, Nat.reduceLT, Nat.reduceAdd, qG_un, qResN_val, qCallVN_fn, wu, n2, c1003, decide_true, decide_false, s6, s12, or_u8, and_u8, b0, t0, t1, row3, q, and_self]
    · have c1003 : ¬ (r : Int) < 55296 := by omega
      have c1004 : (57343 : Int) < r := by omega
      have c1005 : (r : Int) ≤ 65535 := by omega
      simp -implicitDefEqProofs only [c86, r86_0, r86_1, r86_3, r86_5, r86_6, r86_7, opn_z, opn_s, sel_z, sel_s, qCd_eq, qIf_true, qIf_false, qFn_eq, qBl_eq, qO_some, qRes_val, qHp_some, qPick_true, qPick_false, qG_tt, qG_ff, qG_tf, qG_ft, cellsK_some, qLd_ptr, qLd_vptr, qLdA_ptr, qLdA_vptr, qFa_ptr, qFa_vptr, qNc_ptr, qNc_vptr, qNc_fn, qNot_bool, qExt_tup, qCallV_fn, qLss_int, qLeq_int, qGtr_int, qGeq_int, qEql_int, qNeq_int, qAdd_int, qSub_int, qMul_int, qConvI_int, qLenL_sl, qLenL_hsl, qLenS_str, foldO, min2_int, max2_int, qSame_refl, Nat.zero_add, List.getElem?_cons_zero, List.getElem?_cons_succ, List.nil_append, List.cons_append, List.append_nil, one_bool, one_int, one_str, one_nilp, one_ptr, one_sl, one_hsl, one_map, one_fn, List.length_cons, List.length_nil, List.set_cons_zero, List.set_cons_succ, Nat.reduceLT, Nat.reduceAdd, qG_un, qResN_val, qCallVN_fn, wu, n2, c1003, c1004, c1005, decide_true, decide_false, s6, s12, or_u8, and_u8, b0, t0, t1, row3, q, and_self]
  · obtain ⟨v', H', q, a2, a3, a4, a5⟩ := fin _ (enc4 (by omega) (by omega))
    simp only [rowsB, List.map_cons, List.map_nil] at q
    have b0 : bits .or .u8 240 (IntKind.u8.wrap ((r / 262144 : Nat) : Int)) = ((240 + r / 262144 : Nat) : Int) := by
      rw [wrap_u8, Nat.mod_eq_of_lt (by omega)]; exact or240 ⟨r / 262144, by omega⟩
    refine ⟨v', H', ao_form_eq (X := X) (D := OD2) (O := OF2) (S := PS) e86 xf86 rfl hfr ?_, a2, a3, a4, a5⟩
    have c1003 : ¬ (r : Int) < 55296 := by omega
    have c1004 : (57343 : Int) < r := by omega
    have c1005 : ¬ (r : Int) ≤ 65535 := by omega
    have c1006 : (r : Int) > 65535 := by omega
    have c1007 : (r : Int) ≤ 1114111 := by omega
    simp -implicitDefEqProofs only [c86, r86_0, r86_1, r86_3, r86_5, r86_6, r86_8, r86_9, opn_z, opn_s, sel_z, sel_s, qCd_eq, qIf_true, qIf_false, qFn_eq, qBl_eq, qO_some, qRes_val, qHp_some, qPick_true, qPick_false, qG_tt, qG_ff, qG_tf, qG_ft, cellsK_some, qLd_ptr, qLd_vptr, qLdA_ptr, qLdA_vptr, qFa_ptr, qFa_vptr, qNc_ptr, qNc_vptr, qNc_fn, qNot_bool, qExt_tup, qCallV_fn, qLss_int, qLeq_int, qGtr_int, qGeq_int, qEql_int, qNeq_int, qAdd_int, qSub_int, qMul_int, qConvI_int, qLenL_sl, qLenL_hsl, qLenS_str, foldO, min2_int, max2_int, qSame_refl, Nat.zero_add, List.getElem?_cons_zero, List.getElem?_cons_succ, List.nil_append, List.cons_append, List.append_nil, one_bool, one_int, one_str, one_nilp, one_ptr, one_sl, one_hsl, one_map, one_fn, List.length_cons, List.length_nil, List.set_cons_zero, List.set_cons_succ, Nat.reduceLT, Nat.reduceAdd, qG_un, qResN_val, qCallVN_fn, wu, n2, c1003, c1004, c1005, c1006, c1007, decide_true, decide_false, s6, s12, s18, or_u8, and_u8, b0, t0, t1, t2, row4, q, and_self]

theorem ap79 (r : Nat) (hv : okR r) : Apd 78 r := by
  intro H _ t v hb hl
  have hv' := hv
  unfold okR at hv'
  have wu := wrap_u32 (r := r) (by omega)
  have hfr : (PS 78 && AV.frees (AV.kills [v, .int .i32 (r : Int)])) = false := rfl
  by_cases h : r < 128
  · have c1 : (r : Int) ≤ 127 := by omega
    have wb : IntKind.u8.wrap (r : Int) = (r : Int) := by rw [wrap_u8]; omega
    have hx : readRows 1 (.sl [[.int .u8 (r : Int)]] .full) H = some (byR (encR r)) := by
      rw [← rowsB_bys, enc1 h]; rfl
    have hle := encR_len r
    obtain ⟨v', H', q, a2, a3, a4, a5⟩ := app_bf hb hx (by omega)
    refine ⟨v', H', ao_form_eq (X := X) (D := OD2) (O := OF2) (S := PS) e78 xf78 rfl hfr ?_, a2, a3, a4, a5⟩
    simp -implicitDefEqProofs only [c78, r78_0, r78_1, r78_2, opn_z, opn_s, sel_z, sel_s, qCd_eq, qIf_true, qIf_false, qFn_eq, qBl_eq, qO_some, qRes_val, qHp_some, qPick_true, qPick_false, qG_tt, qG_ff, qG_tf, qG_ft, cellsK_some, qLd_ptr, qLd_vptr, qLdA_ptr, qLdA_vptr, qFa_ptr, qFa_vptr, qNc_ptr, qNc_vptr, qNc_fn, qNot_bool, qExt_tup, qCallV_fn, qLss_int, qLeq_int, qGtr_int, qGeq_int, qEql_int, qNeq_int, qAdd_int, qSub_int, qMul_int, qConvI_int, qLenL_sl, qLenL_hsl, qLenS_str, foldO, min2_int, max2_int, qSame_refl, Nat.zero_add, List.getElem?_cons_zero, List.getElem?_cons_succ, List.nil_append, List.cons_append, List.append_nil, one_bool, one_int, one_str, one_nilp, one_ptr, one_sl, one_hsl, one_map, one_fn, List.length_cons, List.length_nil, List.set_cons_zero, List.set_cons_succ, Nat.reduceLT, Nat.reduceAdd, qG_un, qResN_val, qCallVN_fn, wu, c1, decide_true, wb, row1, q, and_self]
  · have c1 : ¬ (r : Int) ≤ 127 := by omega
    obtain ⟨v', H', e, a2, a3, a4, a5⟩ := ap95 r (by omega) hv H t v hb hl
    refine ⟨v', H', ao_form_eq (X := X) (D := OD2) (O := OF2) (S := PS) e78 xf78 rfl hfr ?_, a2, a3, a4, a5⟩
    simp -implicitDefEqProofs only [c78, r78_0, r78_1, r78_3, opn_z, opn_s, sel_z, sel_s, qCd_eq, qIf_true, qIf_false, qFn_eq, qBl_eq, qO_some, qRes_val, qHp_some, qPick_true, qPick_false, qG_tt, qG_ff, qG_tf, qG_ft, cellsK_some, qLd_ptr, qLd_vptr, qLdA_ptr, qLdA_vptr, qFa_ptr, qFa_vptr, qNc_ptr, qNc_vptr, qNc_fn, qNot_bool, qExt_tup, qCallV_fn, qLss_int, qLeq_int, qGtr_int, qGeq_int, qEql_int, qNeq_int, qAdd_int, qSub_int, qMul_int, qConvI_int, qLenL_sl, qLenL_hsl, qLenS_str, foldO, min2_int, max2_int, qSame_refl, Nat.zero_add, List.getElem?_cons_zero, List.getElem?_cons_succ, List.nil_append, List.cons_append, List.append_nil, one_bool, one_int, one_str, one_nilp, one_ptr, one_sl, one_hsl, one_map, one_fn, List.length_cons, List.length_nil, List.set_cons_zero, List.set_cons_succ, Nat.reduceLT, Nat.reduceAdd, qG_un, qResN_val, qCallVN_fn, wu, c1, decide_false, e, and_self]

theorem wr54 (b : Nat) (r : Nat) (hv : okR r) : ∀ (H : AH) [IsFn H] (t : Str) (a v : AV), Bd H b t a v → t.length + 4 < 100000000000 →
    ∃ H' w a' v', EP 64 [.ptr b 0, .int .i32 (r : Int)] H = some (.val w H') ∧ Bd H' b (t ++ encR r) a' v' ∧ IsFn H' ∧ H.nx ≤ H'.nx ∧ Bk H H' b := by
  intro H _ t a v h hl
  obtain ⟨H1, e77, h1, f1, n1, k1⟩ := ep75 h
  have l1 := fun k => ldO (R := Prop) h1.get 1 _ rfl k
  obtain ⟨v', H2, e78, b2, f2, n2, k2⟩ := ap79 r hv H1 t v h1.row hl
  have g2 := k2 b _ h1.get (fun k cs e => by cases e)
  have hlt := lt_i g2
  have q2 : ∀ k : AV → AH → Prop, qSt 1 (.ptr b 1) v' H2 k = k Aes.undef (H2.set b (some (.obj 93 0 [.ptr b 0, v']))) := fun k => qSt_obj (o := 1) g2 (by simp) b2.one k
  have hle := encR_len r
  have ll1 : ∃ n : Int, ∀ k : AV → Prop, qLenL v k = k (.int .i64 n) := by
    rcases h1.row with ⟨_, rfl⟩ | ⟨_, j, rfl, _⟩
    · exact ⟨_, fun k => rfl⟩
    · exact ⟨_, fun k => rfl⟩
  have ll2 : ∃ n : Int, ∀ k : AV → Prop, qLenL v' k = k (.int .i64 n) := by
    rcases b2 with ⟨_, rfl⟩ | ⟨_, j, rfl, _⟩
    · exact ⟨_, fun k => rfl⟩
    · exact ⟨_, fun k => rfl⟩
  obtain ⟨m1, ll1⟩ := ll1
  obtain ⟨m2, ll2⟩ := ll2
  have hg3 : (H2.set b (some (.obj 93 0 [.ptr b 0, v']))).get b = some (.obj 93 0 [.ptr b 0, v']) := by rw [get_set_i hlt, if_pos rfl]
  have l3 := fun k => ldO (R := Prop) hg3 1 _ rfl k
  obtain ⟨w, H', e, hq⟩ := ao_form (X := X) (D := OD2) (O := OF2) (S := PS) (al := [.ptr b 0, .int .i32 (r : Int)]) (H := H) e64 xf64 rfl rfl (Q := fun w H' => H' = H2.set b (some (.obj 93 0 [.ptr b 0, v']))) (by
    simp -implicitDefEqProofs only [c64, r64_0, r64_1, r64_2, r64_3, r64_4, opn_z, opn_s, sel_z, sel_s, qCd_eq, qIf_true, qIf_false, qFn_eq, qBl_eq, qO_some, qRes_val, qHp_some, qPick_true, qPick_false, qG_tt, qG_ff, qG_tf, qG_ft, cellsK_some, qLd_vptr, qLdA_vptr, qFa_ptr, qFa_vptr, qNc_ptr, qNc_vptr, qNc_fn, qNot_bool, qExt_tup, qCallV_fn, qLss_int, qLeq_int, qGtr_int, qGeq_int, qEql_int, qNeq_int, qAdd_int, qSub_int, qMul_int, qConvI_int, qLenL_sl, qLenL_hsl, qLenS_str, foldO, min2_int, max2_int, qSame_refl, Nat.zero_add, List.getElem?_cons_zero, List.getElem?_cons_succ, List.nil_append, List.cons_append, List.append_nil, one_bool, one_int, one_str, one_nilp, one_ptr, one_sl, one_hsl, one_map, one_fn, List.length_cons, List.length_nil, List.set_cons_zero, List.set_cons_succ, Nat.reduceLT, Nat.reduceAdd, qG_un, qResN_val, qCallVN_fn, e77, l1, ll1, e78, q2, l3, ll2])
  subst hq
  refine ⟨_, w, _, v', e, ⟨hg3, .inr rfl, b2.keep fun j cs hj => ?_⟩, inferInstance, by rw [AH.nx_set]; omega, k1.trans fun i o hi hg hn => ?_⟩
  · rw [get_set_i hlt, if_neg (by rintro rfl; rw [g2] at hj; cases hj)]; exact hj
  · rw [get_set_i hlt, if_neg hi]; exact k2 i o hg hn
end T
set_option linter.unusedVariables false
set_option linter.unusedSimpArgs false
set_option maxRecDepth 10000
namespace T
open Go Go.Aes Go.Proofs

/-! ### the runes of a text -/
theorem dec_lib (b : UInt8) (r : Str) : Aes.decodeL (b :: r) = Lib.decodeL (b :: r) := by
  rw [← decode_spec ⟨(b :: r).toArray⟩ 0 b r (by simp)]
  rfl
theorem range_i {H : AH} [IsFn H] (s : Str) (k : AV → AH → Prop) : qRange (.str s) H k = k (.it H.nx) (H.push (.iter s 0)) := by
  show qNew (.iter s 0) .it H k = _
  rw [qNew_i]; rfl
theorem next_nil {H : AH} [IsFn H] {i p : Nat} (hg : H.get i = some (.iter [] p)) (k : AV → AH → Prop) : qNext (.it i) H k = k (.tup [.bool false]) H := by
  show qHp (nextAt i H) k = _
  have : nextAt i H = some (.tup [.bool false], H) := by
    unfold nextAt
    simp only [hg, okI_i (lt_i hg)]
    rfl
  rw [this, qHp_some]
theorem next_cons {H : AH} [IsFn H] {i p : Nat} {b : UInt8} {r : Str} (hg : H.get i = some (.iter (b :: r) p)) (k : AV → AH → Prop) : qNext (.it i) H k =
    k (.tup [.bool true, .int .i64 p, .int .i32 ((Lib.decodeL (b :: r)).1 : Int)]) (H.set i (some (.iter ((b :: r).drop (Lib.decodeL (b :: r)).2) (p + (Lib.decodeL (b :: r)).2)))) := by
  show qHp (nextAt i H) k = _
  have : nextAt i H = some (.tup [.bool true, .int .i64 p, .int .i32 ((Lib.decodeL (b :: r)).1 : Int)], H.set i (some (.iter ((b :: r).drop (Lib.decodeL (b :: r)).2) (p + (Lib.decodeL (b :: r)).2)))) := by
    unfold nextAt
    simp only [hg, okI_i (lt_i hg), dec_lib]
    rfl
  rw [this, qHp_some]
theorem dec_ascii (b : UInt8) (r : Str) (h : b.toNat < 128) : Lib.decodeL (b :: r) = (b.toNat, 1) := Lib.decodeL_ascii b r h

/-! ### IndexRune in letters below 128 -/
def Asc (p : Str) : Prop := ∀ c ∈ p, c.toNat < 128
theorem ib_hi {p : Str} (h : Asc p) {c : UInt8} (hc : 128 ≤ c.toNat) : Lib.indexByte p c = -1 := by
  have := ib_ge p c
  have hn : p.contains c = false := by
    cases hx : p.contains c with
    | false => rfl
    | true =>
      have := h c (by simpa using hx)
      omega
  rw [hn] at this
  simp at this
  omega
def ixr (p : Str) (r : Nat) : Int := if r < 128 then Lib.indexByte p (UInt8.ofNat r) else -1

theorem u8nat {r : Nat} (h : r < 256) : (UInt8.ofNat r).toNat = r := by simp; omega
theorem enc_conv (r : Nat) : (conv X 21 9 (.int .i32 (r : Int))) = some (.str (Utf8.encode (r : Int)).data.toList) := rfl
theorem enc_hi {r : Nat} (h : 128 ≤ r) (hv : okR r) : ∃ s c, (Utf8.encode (r : Int)).data.toList = s ++ [c] ∧ s.length ≤ 3 ∧ 128 ≤ c.toNat := by
  unfold okR at hv
  have hb : ∀ (n : Nat), 128 ≤ (UInt8.ofNat (128 + n % 64)).toNat := fun n => by rw [u8nat (by omega)]; omega
  have hval : Utf8.valid (r : Int) = true := by
    simp only [Utf8.valid, Bool.and_eq_true, Bool.or_eq_true, decide_eq_true_eq]
    omega
  unfold Utf8.encode
  rw [if_pos hval]
  simp only [Int.toNat_natCast]
  rw [if_neg (by omega)]
  split
  · exact ⟨[_], _, rfl, by simp, hb _⟩
  · split
    · exact ⟨[_, _], _, rfl, by simp, hb _⟩
    · exact ⟨[_, _, _], _, rfl, by simp, hb _⟩

theorem qIx_at (s : Str) (i : Nat) (c : UInt8) (h : s[i]? = some c) (k : AV → Prop) : qIx (.str s) (.int .i64 (i : Int)) k = k (.int .u8 c.toNat) := qIx_str h .i64 k

instance (r : Nat) : Decidable (okR r) := by unfold okR; infer_instance
theorem ep76_lo (r : Nat) (h1 : (r : Int) < 55296) (H : AH) : EP 88 [.int .i32 (r : Int)] H = some (.val (.bool true) H) := by
  refine uo_form e88 xf88 rfl rfl rfl rfl ?_ H
  simp only [AV.kills, AV.kill]
  have c0 : (0 : Int) ≤ r := Int.natCast_nonneg r
  simp -implicitDefEqProofs only [c88, r88_0, r88_1, r88_2, opn_z, opn_s, sel_z, sel_s, qCd_eq, qIf_true, qIf_false, qFn_eq, qBl_eq, qO_some, qRes_val, qHp_some, qPick_true, qPick_false, qG_tt, qG_ff, qG_tf, qG_ft, cellsK_some, qLd_ptr, qLd_vptr, qLdA_ptr, qLdA_vptr, qFa_ptr, qFa_vptr, qNc_ptr, qNc_vptr, qNc_fn, qNot_bool, qExt_tup, qCallV_fn, qLss_int, qLeq_int, qGtr_int, qGeq_int, qEql_int, qNeq_int, qAdd_int, qSub_int, qMul_int, qConvI_int, qLenL_sl, qLenL_hsl, qLenS_str, foldO, min2_int, max2_int, qSame_refl, Nat.zero_add, List.getElem?_cons_zero, List.getElem?_cons_succ, List.nil_append, List.cons_append, List.append_nil, one_bool, one_int, one_str, one_nilp, one_ptr, one_sl, one_hsl, one_map, one_fn, List.length_cons, List.length_nil, List.set_cons_zero, List.set_cons_succ, Nat.reduceLT, Nat.reduceAdd, qG_un, qResN_val, qCallVN_fn, AV.kill, AV.kills, Tk.kill, c0, h1, decide_true]
theorem ep76_hi (r : Nat) (h1 : ¬ (r : Int) < 55296) (h2 : (57343 : Int) < r) (h3 : (r : Int) ≤ 1114111) (H : AH) : EP 88 [.int .i32 (r : Int)] H = some (.val (.bool true) H) := by
  refine uo_form e88 xf88 rfl rfl rfl rfl ?_ H
  simp only [AV.kills, AV.kill]
  have c0 : (0 : Int) ≤ r := Int.natCast_nonneg r
  simp -implicitDefEqProofs only [c88, r88_0, r88_1, r88_3, r88_4, opn_z, opn_s, sel_z, sel_s, qCd_eq, qIf_true, qIf_false, qFn_eq, qBl_eq, qO_some, qRes_val, qHp_some, qPick_true, qPick_false, qG_tt, qG_ff, qG_tf, qG_ft, cellsK_some, qLd_ptr, qLd_vptr, qLdA_ptr, qLdA_vptr, qFa_ptr, qFa_vptr, qNc_ptr, qNc_vptr, qNc_fn, qNot_bool, qExt_tup, qCallV_fn, qLss_int, qLeq_int, qGtr_int, qGeq_int, qEql_int, qNeq_int, qAdd_int, qSub_int, qMul_int, qConvI_int, qLenL_sl, qLenL_hsl, qLenS_str, foldO, min2_int, max2_int, qSame_refl, Nat.zero_add, List.getElem?_cons_zero, List.getElem?_cons_succ, List.nil_append, List.cons_append, List.append_nil, one_bool, one_int, one_str, one_nilp, one_ptr, one_sl, one_hsl, one_map, one_fn, List.length_cons, List.length_nil, List.set_cons_zero, List.set_cons_succ, Nat.reduceLT, Nat.reduceAdd, qG_un, qResN_val, qCallVN_fn, AV.kill, AV.kills, Tk.kill, c0, h1, h2, h3, decide_true, decide_false]
theorem ep76_no (r : Nat) (h1 : ¬ (r : Int) < 55296) (h2 : ¬ (57343 : Int) < r) (H : AH) : EP 88 [.int .i32 (r : Int)] H = some (.val (.bool false) H) := by
  refine uo_form e88 xf88 rfl rfl rfl rfl ?_ H
  simp only [AV.kills, AV.kill]
  have c0 : (0 : Int) ≤ r := Int.natCast_nonneg r
  simp -implicitDefEqProofs only [c88, r88_0, r88_1, r88_3, r88_5, opn_z, opn_s, sel_z, sel_s, qCd_eq, qIf_true, qIf_false, qFn_eq, qBl_eq, qO_some, qRes_val, qHp_some, qPick_true, qPick_false, qG_tt, qG_ff, qG_tf, qG_ft, cellsK_some, qLd_ptr, qLd_vptr, qLdA_ptr, qLdA_vptr, qFa_ptr, qFa_vptr, qNc_ptr, qNc_vptr, qNc_fn, qNot_bool, qExt_tup, qCallV_fn, qLss_int, qLeq_int, qGtr_int, qGeq_int, qEql_int, qNeq_int, qAdd_int, qSub_int, qMul_int, qConvI_int, qLenL_sl, qLenL_hsl, qLenS_str, foldO, min2_int, max2_int, qSame_refl, Nat.zero_add, List.getElem?_cons_zero, List.getElem?_cons_succ, List.nil_append, List.cons_append, List.append_nil, one_bool, one_int, one_str, one_nilp, one_ptr, one_sl, one_hsl, one_map, one_fn, List.length_cons, List.length_nil, List.set_cons_zero, List.set_cons_succ, Nat.reduceLT, Nat.reduceAdd, qG_un, qResN_val, qCallVN_fn, AV.kill, AV.kills, Tk.kill, c0, h1, h2, decide_true, decide_false]
theorem ep76_big (r : Nat) (h1 : ¬ (r : Int) < 55296) (h2 : (57343 : Int) < r) (h3 : ¬ (r : Int) ≤ 1114111) (H : AH) : EP 88 [.int .i32 (r : Int)] H = some (.val (.bool false) H) := by
  refine uo_form e88 xf88 rfl rfl rfl rfl ?_ H
  simp only [AV.kills, AV.kill]
  have c0 : (0 : Int) ≤ r := Int.natCast_nonneg r
  simp -implicitDefEqProofs only [c88, r88_0, r88_1, r88_3, r88_5, opn_z, opn_s, sel_z, sel_s, qCd_eq, qIf_true, qIf_false, qFn_eq, qBl_eq, qO_some, qRes_val, qHp_some, qPick_true, qPick_false, qG_tt, qG_ff, qG_tf, qG_ft, cellsK_some, qLd_ptr, qLd_vptr, qLdA_ptr, qLdA_vptr, qFa_ptr, qFa_vptr, qNc_ptr, qNc_vptr, qNc_fn, qNot_bool, qExt_tup, qCallV_fn, qLss_int, qLeq_int, qGtr_int, qGeq_int, qEql_int, qNeq_int, qAdd_int, qSub_int, qMul_int, qConvI_int, qLenL_sl, qLenL_hsl, qLenS_str, foldO, min2_int, max2_int, qSame_refl, Nat.zero_add, List.getElem?_cons_zero, List.getElem?_cons_succ, List.nil_append, List.cons_append, List.append_nil, one_bool, one_int, one_str, one_nilp, one_ptr, one_sl, one_hsl, one_map, one_fn, List.length_cons, List.length_nil, List.set_cons_zero, List.set_cons_succ, Nat.reduceLT, Nat.reduceAdd, qG_un, qResN_val, qCallVN_fn, AV.kill, AV.kills, Tk.kill, c0, h1, h2, h3, decide_true, decide_false]
theorem ep76 (r : Nat) (H : AH) : EP 88 [.int .i32 (r : Int)] H = some (.val (.bool (decide (okR r))) H) := by
  by_cases h1 : (r : Int) < 55296
  · rw [ep76_lo r h1, show decide (okR r) = true from decide_eq_true (.inl (by omega))]
  · by_cases h2 : (57343 : Int) < r
    · by_cases h3 : (r : Int) ≤ 1114111
      · rw [ep76_hi r h1 h2 h3, show decide (okR r) = true from decide_eq_true (.inr (by omega))]
      · rw [ep76_big r h1 h2 h3, show decide (okR r) = false from decide_eq_false (by unfold okR; omega)]
    · rw [ep76_no r h1 h2, show decide (okR r) = false from decide_eq_false (by unfold okR; omega)]

set_option maxHeartbeats 1000000 in
theorem ep52 (p : Str) (hp : Asc p) (hl : p.length < 1000) (r : Nat) (H : AH) : EP 83 [.str p, .int .i32 (r : Int)] H = some (.val (.int .i64 (ixr p r)) H) := by
  refine uo_form e83 xf83 rfl rfl rfl rfl ?_ H
  simp only [AV.kills, AV.kill]
  have c0 : (0 : Int) ≤ r := by omega
  by_cases h1 : r < 128
  · have c1 : (r : Int) < 128 := by omega
    have wb : IntKind.u8.wrap (r : Int) = ((UInt8.ofNat r).toNat : Int) := by rw [wrap_u8, u8nat (by omega)]; omega
    have e := fun H => ep43 p (UInt8.ofNat r) H
    simp -implicitDefEqProofs only [c83, r83_0, r83_34, r83_35, opn_z, opn_s, sel_z, sel_s, qCd_eq, qIf_true, qIf_false, qFn_eq, qBl_eq, qO_some, qRes_val, qHp_some, qPick_true, qPick_false, qG_tt, qG_ff, qG_tf, qG_ft, cellsK_some, qLd_ptr, qLd_vptr, qLdA_ptr, qLdA_vptr, qFa_ptr, qFa_vptr, qNc_ptr, qNc_vptr, qNc_fn, qNot_bool, qExt_tup, qCallV_fn, qLss_int, qLeq_int, qGtr_int, qGeq_int, qEql_int, qNeq_int, qAdd_int, qSub_int, qMul_int, qConvI_int, qLenL_sl, qLenL_hsl, qLenS_str, foldO, min2_int, max2_int, qSame_refl, Nat.zero_add, List.getElem?_cons_zero, List.getElem?_cons_succ, List.nil_append, List.cons_append, List.append_nil, one_bool, one_int, one_str, one_nilp, one_ptr, one_sl, one_hsl, one_map, one_fn, List.length_cons, List.length_nil, List.set_cons_zero, List.set_cons_succ, Nat.reduceLT, Nat.reduceAdd, qG_un, qResN_val, qCallVN_fn, AV.kill, AV.kills, Tk.kill, c0, c1, decide_true, wb, e, ixr, if_pos h1]
  have c1 : ¬ (r : Int) < 128 := by omega
  have hres : ixr p r = -1 := if_neg h1
  rw [hres]
  by_cases h2 : r = 65533
  · subst h2
    have c2 : (((65533 : Nat) : Int) == 65533) = true := rfl
    have c2' : (((65533 : Nat) : Int) < 128) = False := by simp
    simp -implicitDefEqProofs only [c83, r83_0, r83_34, r83_36, r83_37, opn_z, opn_s, sel_z, sel_s, qCd_eq, qIf_true, qIf_false, qFn_eq, qBl_eq, qO_some, qRes_val, qHp_some, qPick_true, qPick_false, qG_tt, qG_ff, qG_tf, qG_ft, cellsK_some, qLd_ptr, qLd_vptr, qLdA_ptr, qLdA_vptr, qFa_ptr, qFa_vptr, qNc_ptr, qNc_vptr, qNc_fn, qNot_bool, qExt_tup, qCallV_fn, qLss_int, qLeq_int, qGtr_int, qGeq_int, qEql_int, qNeq_int, qAdd_int, qSub_int, qMul_int, qConvI_int, qLenL_sl, qLenL_hsl, qLenS_str, foldO, min2_int, max2_int, qSame_refl, Nat.zero_add, List.getElem?_cons_zero, List.getElem?_cons_succ, List.nil_append, List.cons_append, List.append_nil, one_bool, one_int, one_str, one_nilp, one_ptr, one_sl, one_hsl, one_map, one_fn, List.length_cons, List.length_nil, List.set_cons_zero, List.set_cons_succ, Nat.reduceLT, Nat.reduceAdd, qG_un, qResN_val, qCallVN_fn, AV.kill, AV.kills, Tk.kill, c0, c1, c2, decide_true, decide_false, range_i]
    refine loop_inv (fun m fr H' => ∃ (rest : Str) (pos : Nat) (x0 x1 x4 x5 x6 x7 x8 x9 x10 x11 x12 x13 x14 x15 x16 x26 x33 x43 x51 x64 x98 x108 x124 x139 x143 x156 x160 x171 x176 x177 x181 x183 : AV), m = rest.length ∧ (∀ c ∈ rest, c.toNat < 128) ∧ fr = [x0, x1, x4, x5, x6, x7, x8, x9, x10, x11, x12, x13, x14, x15, x16, x26, x33, x43, x51, x64, x98, x108, x124, x139, x143, x156, x160, x171, .it H0.nx, x176, x177, x181, x183] ∧ IsFn H' ∧ H'.get H0.nx = some (.iter rest pos)) ?_ (m := p.length) ?_
    · rintro m fr H' k ⟨rest, pos, x0, x1, x4, x5, x6, x7, x8, x9, x10, x11, x12, x13, x14, x15, x16, x26, x33, x43, x51, x64, x98, x108, x124, x139, x143, x156, x160, x171, x176, x177, x181, x183, rfl, ha, rfl, hf, hg⟩ hk
      cases rest with
      | nil =>
        have nx := fun k => next_nil hg k
        simp -implicitDefEqProofs only [l83_8, r83_38, r83_42, opn_z, opn_s, sel_z, sel_s, qCd_eq, qIf_true, qIf_false, qFn_eq, qBl_eq, qO_some, qRes_val, qHp_some, qPick_true, qPick_false, qG_tt, qG_ff, qG_tf, qG_ft, cellsK_some, qLd_ptr, qLd_vptr, qLdA_ptr, qLdA_vptr, qFa_ptr, qFa_vptr, qNc_ptr, qNc_vptr, qNc_fn, qNot_bool, qExt_tup, qCallV_fn, qLss_int, qLeq_int, qGtr_int, qGeq_int, qEql_int, qNeq_int, qAdd_int, qSub_int, qMul_int, qConvI_int, qLenL_sl, qLenL_hsl, qLenS_str, foldO, min2_int, max2_int, qSame_refl, Nat.zero_add, List.getElem?_cons_zero, List.getElem?_cons_succ, List.nil_append, List.cons_append, List.append_nil, one_bool, one_int, one_str, one_nilp, one_ptr, one_sl, one_hsl, one_map, one_fn, List.length_cons, List.length_nil, List.set_cons_zero, List.set_cons_succ, Nat.reduceLT, Nat.reduceAdd, qG_un, qResN_val, qCallVN_fn, AV.kill, AV.kills, Tk.kill, nx]
      | cons b rest =>
        have nx := fun k => next_cons hg k
        have hb := ha b (by simp)
        rw [dec_ascii b rest hb] at nx
        have cb : (((b.toNat : Nat) : Int) == 65533) = false := by simp; omega
        simp -implicitDefEqProofs only [l83_8, r83_38, r83_39, r83_40, opn_z, opn_s, sel_z, sel_s, qCd_eq, qIf_true, qIf_false, qFn_eq, qBl_eq, qO_some, qRes_val, qHp_some, qPick_true, qPick_false, qG_tt, qG_ff, qG_tf, qG_ft, cellsK_some, qLd_ptr, qLd_vptr, qLdA_ptr, qLdA_vptr, qFa_ptr, qFa_vptr, qNc_ptr, qNc_vptr, qNc_fn, qNot_bool, qExt_tup, qCallV_fn, qLss_int, qLeq_int, qGtr_int, qGeq_int, qEql_int, qNeq_int, qAdd_int, qSub_int, qMul_int, qConvI_int, qLenL_sl, qLenL_hsl, qLenS_str, foldO, min2_int, max2_int, qSame_refl, Nat.zero_add, List.getElem?_cons_zero, List.getElem?_cons_succ, List.nil_append, List.cons_append, List.append_nil, one_bool, one_int, one_str, one_nilp, one_ptr, one_sl, one_hsl, one_map, one_fn, List.length_cons, List.length_nil, List.set_cons_zero, List.set_cons_succ, Nat.reduceLT, Nat.reduceAdd, qG_un, qResN_val, qCallVN_fn, AV.kill, AV.kills, Tk.kill, nx, cb]
        refine hk rest.length _ _ (by simp) ⟨rest, pos + 1, _, _, _, _, _, _, _, _, _, _, _, _, _, _, _, _, _, _, _, _, _, _, _, _, _, _, _, _, _, _, _, _, rfl, fun c hc => ha c (by simp [hc]), rfl, inferInstance, ?_⟩
        rw [get_set_i (lt_i hg), if_pos rfl]
        rfl
    · exact ⟨p, 0, _, _, _, _, _, _, _, _, _, _, _, _, _, _, _, _, _, _, _, _, _, _, _, _, _, _, _, _, _, _, _, _, rfl, hp, rfl, inferInstance, get_push_at _⟩
  have c2 : (((r : Nat) : Int) == 65533) = false := by simp; omega
  have v := fun H => ep76 r H
  by_cases h3 : okR r
  · have hv : decide (okR r) = true := by simp [h3]
    rw [hv] at v
    obtain ⟨s, c, he, hs3, hc⟩ := enc_hi (by omega) h3
    have ce := enc_conv r
    rw [he] at ce
    have w1 : IntKind.i64.wrap (((s ++ [c]).length : Int) - 1) = (s.length : Int) := by
      have : (((s ++ [c]).length : Nat) : Int) - 1 = (s.length : Int) := by simp
      rw [this]; exact i64_in' (by omega)
    have gl : (s ++ [c])[s.length]? = some c := by simp
    have qc := fun k => qIx_at (s ++ [c]) s.length c gl k
    rcases Nat.lt_or_ge s.length p.length with h4 | h4
    · have c1004 : (s.length : Int) < (p.length : Int) := by omega
      have gp : p[s.length]? = some p[s.length] := List.getElem?_eq_getElem h4
      have qp := fun k => qIx_at p s.length _ gp k
      have hpp := hp _ (List.getElem_mem h4)
      have cn : (((p[s.length].toNat : Nat) : Int) == ((c.toNat : Nat) : Int)) = false := by simp; omega
      have w2 := wrap_up s.length (by omega)
      have sl := fun k => slcS_lo p (s.length + 1) (by omega) k
      have e := fun H => ep43 (p.drop (s.length + 1)) c H
      rw [ib_hi (fun d hd => hp d (List.mem_of_mem_drop hd)) hc] at e
      have ng : ((-1 : Int) < 0) = True := by simp
      simp -implicitDefEqProofs only [c83, r83_0, r83_34, r83_36, r83_43, r83_1, r83_2, r83_3, r83_4, opn_z, opn_s, sel_z, sel_s, qCd_eq, qIf_true, qIf_false, qFn_eq, qBl_eq, qO_some, qRes_val, qHp_some, qPick_true, qPick_false, qG_tt, qG_ff, qG_tf, qG_ft, cellsK_some, qLd_ptr, qLd_vptr, qLdA_ptr, qLdA_vptr, qFa_ptr, qFa_vptr, qNc_ptr, qNc_vptr, qNc_fn, qNot_bool, qExt_tup, qCallV_fn, qLss_int, qLeq_int, qGtr_int, qGeq_int, qEql_int, qNeq_int, qAdd_int, qSub_int, qMul_int, qConvI_int, qLenL_sl, qLenL_hsl, qLenS_str, foldO, min2_int, max2_int, qSame_refl, Nat.zero_add, List.getElem?_cons_zero, List.getElem?_cons_succ, List.nil_append, List.cons_append, List.append_nil, one_bool, one_int, one_str, one_nilp, one_ptr, one_sl, one_hsl, one_map, one_fn, List.length_cons, List.length_nil, List.set_cons_zero, List.set_cons_succ, Nat.reduceLT, Nat.reduceAdd, qG_un, qResN_val, qCallVN_fn, AV.kill, AV.kills, Tk.kill, c0, c1, c2, decide_true, decide_false, v, Bool.not_true, ce, w1]
      refine loop_inv (fun m fr H' => ∃ x1 x4 x5 x6 x11 x12 x13 x14 x15 x16 x26 x33 x43 x51 x64 x98 x108 x124 x139 x143 x156 x160 x171 x175 x176 x177 x181 x183 : AV, fr = [.str p, x1, x4, x5, x6, .str (s ++ [c]), .int .i64 (s.length : Int), .int .i64 (s.length : Int), .int .i64 0, x11, x12, x13, x14, x15, x16, x26, x33, x43, x51, x64, x98, x108, x124, x139, x143, x156, x160, x171, x175, x176, x177, x181, x183]) ?_ (m := 0) ⟨_, _, _, _, _, _, _, _, _, _, _, _, _, _, _, _, _, _, _, _, _, _, _, _, _, _, _, _, rfl⟩
      rintro m fr H' k ⟨x1, x4, x5, x6, x11, x12, x13, x14, x15, x16, x26, x33, x43, x51, x64, x98, x108, x124, x139, x143, x156, x160, x171, x175, x176, x177, x181, x183, rfl⟩ _
      simp -implicitDefEqProofs only [l83_33, r83_5, r83_6, r83_7, r83_8, r83_9, opn_z, opn_s, sel_z, sel_s, qCd_eq, qIf_true, qIf_false, qFn_eq, qBl_eq, qO_some, qRes_val, qHp_some, qPick_true, qPick_false, qG_tt, qG_ff, qG_tf, qG_ft, cellsK_some, qLd_ptr, qLd_vptr, qLdA_ptr, qLdA_vptr, qFa_ptr, qFa_vptr, qNc_ptr, qNc_vptr, qNc_fn, qNot_bool, qExt_tup, qCallV_fn, qLss_int, qLeq_int, qGtr_int, qGeq_int, qEql_int, qNeq_int, qAdd_int, qSub_int, qMul_int, qConvI_int, qLenL_sl, qLenL_hsl, qLenS_str, foldO, min2_int, max2_int, qSame_refl, Nat.zero_add, List.getElem?_cons_zero, List.getElem?_cons_succ, List.nil_append, List.cons_append, List.append_nil, one_bool, one_int, one_str, one_nilp, one_ptr, one_sl, one_hsl, one_map, one_fn, List.length_cons, List.length_nil, List.set_cons_zero, List.set_cons_succ, Nat.reduceLT, Nat.reduceAdd, qG_un, qResN_val, qCallVN_fn, AV.kill, AV.kills, Tk.kill, c1004, decide_true, qp, qc, cn, Bool.not_false, w2, sl, e, ng]
    · have c1004 : ¬ (s.length : Int) < (p.length : Int) := by omega
      simp -implicitDefEqProofs only [c83, r83_0, r83_34, r83_36, r83_43, r83_1, r83_2, r83_3, r83_4, opn_z, opn_s, sel_z, sel_s, qCd_eq, qIf_true, qIf_false, qFn_eq, qBl_eq, qO_some, qRes_val, qHp_some, qPick_true, qPick_false, qG_tt, qG_ff, qG_tf, qG_ft, cellsK_some, qLd_ptr, qLd_vptr, qLdA_ptr, qLdA_vptr, qFa_ptr, qFa_vptr, qNc_ptr, qNc_vptr, qNc_fn, qNot_bool, qExt_tup, qCallV_fn, qLss_int, qLeq_int, qGtr_int, qGeq_int, qEql_int, qNeq_int, qAdd_int, qSub_int, qMul_int, qConvI_int, qLenL_sl, qLenL_hsl, qLenS_str, foldO, min2_int, max2_int, qSame_refl, Nat.zero_add, List.getElem?_cons_zero, List.getElem?_cons_succ, List.nil_append, List.cons_append, List.append_nil, one_bool, one_int, one_str, one_nilp, one_ptr, one_sl, one_hsl, one_map, one_fn, List.length_cons, List.length_nil, List.set_cons_zero, List.set_cons_succ, Nat.reduceLT, Nat.reduceAdd, qG_un, qResN_val, qCallVN_fn, AV.kill, AV.kills, Tk.kill, c0, c1, c2, decide_true, decide_false, v, Bool.not_true, ce, w1]
      refine loop_inv (fun m fr H' => ∃ x1 x4 x5 x6 x11 x12 x13 x14 x15 x16 x26 x33 x43 x51 x64 x98 x108 x124 x139 x143 x156 x160 x171 x175 x176 x177 x181 x183 : AV, fr = [.str p, x1, x4, x5, x6, .str (s ++ [c]), .int .i64 (s.length : Int), .int .i64 (s.length : Int), .int .i64 0, x11, x12, x13, x14, x15, x16, x26, x33, x43, x51, x64, x98, x108, x124, x139, x143, x156, x160, x171, x175, x176, x177, x181, x183]) ?_ (m := 0) ⟨_, _, _, _, _, _, _, _, _, _, _, _, _, _, _, _, _, _, _, _, _, _, _, _, _, _, _, _, rfl⟩
      rintro m fr H' k ⟨x1, x4, x5, x6, x11, x12, x13, x14, x15, x16, x26, x33, x43, x51, x64, x98, x108, x124, x139, x143, x156, x160, x171, x175, x176, x177, x181, x183, rfl⟩ _
      simp -implicitDefEqProofs only [l83_33, r83_5, r83_19, opn_z, opn_s, sel_z, sel_s, qCd_eq, qIf_true, qIf_false, qFn_eq, qBl_eq, qO_some, qRes_val, qHp_some, qPick_true, qPick_false, qG_tt, qG_ff, qG_tf, qG_ft, cellsK_some, qLd_ptr, qLd_vptr, qLdA_ptr, qLdA_vptr, qFa_ptr, qFa_vptr, qNc_ptr, qNc_vptr, qNc_fn, qNot_bool, qExt_tup, qCallV_fn, qLss_int, qLeq_int, qGtr_int, qGeq_int, qEql_int, qNeq_int, qAdd_int, qSub_int, qMul_int, qConvI_int, qLenL_sl, qLenL_hsl, qLenS_str, foldO, min2_int, max2_int, qSame_refl, Nat.zero_add, List.getElem?_cons_zero, List.getElem?_cons_succ, List.nil_append, List.cons_append, List.append_nil, one_bool, one_int, one_str, one_nilp, one_ptr, one_sl, one_hsl, one_map, one_fn, List.length_cons, List.length_nil, List.set_cons_zero, List.set_cons_succ, Nat.reduceLT, Nat.reduceAdd, qG_un, qResN_val, qCallVN_fn, AV.kill, AV.kills, Tk.kill, c1004, decide_false]
  · have hv : decide (okR r) = false := by simp [h3]
    rw [hv] at v
    simp -implicitDefEqProofs only [c83, r83_0, r83_34, r83_36, r83_43, r83_44, opn_z, opn_s, sel_z, sel_s, qCd_eq, qIf_true, qIf_false, qFn_eq, qBl_eq, qO_some, qRes_val, qHp_some, qPick_true, qPick_false, qG_tt, qG_ff, qG_tf, qG_ft, cellsK_some, qLd_ptr, qLd_vptr, qLdA_ptr, qLdA_vptr, qFa_ptr, qFa_vptr, qNc_ptr, qNc_vptr, qNc_fn, qNot_bool, qExt_tup, qCallV_fn, qLss_int, qLeq_int, qGtr_int, qGeq_int, qEql_int, qNeq_int, qAdd_int, qSub_int, qMul_int, qConvI_int, qLenL_sl, qLenL_hsl, qLenS_str, foldO, min2_int, max2_int, qSame_refl, Nat.zero_add, List.getElem?_cons_zero, List.getElem?_cons_succ, List.nil_append, List.cons_append, List.append_nil, one_bool, one_int, one_str, one_nilp, one_ptr, one_sl, one_hsl, one_map, one_fn, List.length_cons, List.length_nil, List.set_cons_zero, List.set_cons_succ, Nat.reduceLT, Nat.reduceAdd, qG_un, qResN_val, qCallVN_fn, AV.kill, AV.kills, Tk.kill, c0, c1, c2, decide_true, decide_false, v, Bool.not_false]
end T
set_option linter.unusedVariables false
set_option linter.unusedSimpArgs false
set_option maxRecDepth 10000
namespace T
open Go Go.Aes Go.Proofs

/-! ### Quote -/
def plain : Str := [34,92,47,8,12,10,13,9]
def escd : Str := [34,92,47,98,102,110,114,116]
def hexs : Str := [48,49,50,51,52,53,54,55,56,57,97,98,99,100,101,102]
def escB (c : UInt8) : Str :=
  if c ≠ 47 ∧ 0 ≤ Lib.indexByte plain c then [92, escd.getD (Lib.indexByte plain c).toNat 0]
  else if c.toNat < 32 ∨ c.toNat = 127 then [92, 117, 48, 48, hexs.getD (c.toNat / 16) 0, hexs.getD (c.toNat % 16) 0]
  else [c]
def quoteF (s : Str) : Str := if Lib.validD s then [34] ++ s.flatMap escB ++ [34] else []

theorem plain_asc : Asc plain := by
  intro c hc
  have : plain.all (fun c => decide (c.toNat < 128)) = true := by decide
  exact of_decide_eq_true (List.all_eq_true.1 this c hc)
theorem escB_hi {c : UInt8} (h : 128 ≤ c.toNat) : escB c = [c] := by
  unfold escB
  rw [ib_hi plain_asc h, if_neg (by omega), if_neg (by omega)]
theorem escB_len (c : UInt8) : (escB c).length ≤ 6 := by
  unfold escB
  split
  · simp
  · split <;> simp
theorem ib_plain (c : UInt8) : Lib.indexByte plain c < 8 := by
  have h := ib_ge plain c
  rcases Int.lt_or_le (Lib.indexByte plain c) 0 with h1 | h1
  · omega
  · obtain ⟨n, hn⟩ := Int.eq_ofNat_of_zero_le h1
    have := (Lib.indexByte_some hn).1
    have hlt := (List.getElem?_eq_some_iff.1 this).1
    have : plain.length = 8 := rfl
    omega

theorem dec_hi {b : UInt8} {r : Str} (h : 128 ≤ b.toNat) (hv : ¬ ((Lib.decodeL (b :: r)).1 = 65533 ∧ (Lib.decodeL (b :: r)).2 = 1)) : 128 ≤ (Lib.decodeL (b :: r)).1 ∧ okR (Lib.decodeL (b :: r)).1 := by
  rw [Lib.decodeL_N] at hv ⊢
  have hg : (b :: r).getD 0 0 = b := rfl
  rw [hg] at hv ⊢
  unfold okR
  rcases Lib.decodeN_shape (b :: r).length b.toNat ((b :: r).getD 1 0).toNat ((b :: r).getD 2 0).toNat ((b :: r).getD 3 0).toNat with ⟨c, e⟩ | ⟨c1, c2, c1003, cv, e⟩ | ⟨c1, c2, c1003, c1004, cv, cs, e⟩ | ⟨c1, c2, c1003, c1004, c1005, cv, cw, e⟩ | e
  · omega
  · rw [e]; simp only; omega
  · rw [e]; simp only; omega
  · rw [e]; simp only; omega
  · rw [e] at hv; exact absurd ⟨rfl, rfl⟩ hv
theorem encR_hi {c : Nat} (h : 128 ≤ c) (hv : okR c) : ∀ x ∈ encR c, 128 ≤ x.toNat := by
  intro x hx
  unfold okR at hv
  have hm : (AV.int .u8 x.toNat) ∈ bys (encR c) := List.mem_map.2 ⟨x, hx, rfl⟩
  have key : ∀ l, bys (encR c) = l → (AV.int .u8 x.toNat) ∈ l := fun l e => e ▸ hm
  by_cases h2 : c < 2048
  · have := key _ (enc2 h h2)
    simp at this
    omega
  · by_cases h3 : c < 65536
    · have := key _ (enc3 (by omega) h3 hv)
      simp at this
      omega
    · have := key _ (enc4 (by omega) (by omega))
      simp at this
      omega
theorem flat_hi {l : Str} (h : ∀ x ∈ l, 128 ≤ x.toNat) : l.flatMap escB = l := by
  induction l with
  | nil => rfl
  | cons a l ih =>
    rw [List.flatMap_cons, escB_hi (h a (by simp)), ih (fun x hx => h x (by simp [hx]))]
    rfl
theorem encR_asc (b : UInt8) (h : b.toNat < 128) : encR b.toNat = [b] := by
  have := enc1 h
  have hb := bytesK_bys (encR b.toNat)
  rw [this] at hb
  have h2 := bytesK_bys [b]
  have h3 : bys [b] = [.int .u8 ((b.toNat : Nat) : Int)] := rfl
  rw [h3] at h2
  rw [hb] at h2
  injection h2

theorem Bd.iter {H : AH} [IsFn H] {b i p p' : Nat} {s : Str} {a v : AV} {l l' : Str} (h : Bd H b s a v) (hg : H.get i = some (.iter l p)) : Bd (H.set i (some (.iter l' p'))) b s a v :=
  ⟨by rw [get_set_i (lt_i hg), if_neg (by rintro rfl; rw [h.get] at hg; cases hg)]; exact h.get, h.own, h.row.keep fun j cs hj => by
    rw [get_set_i (lt_i hg), if_neg (by rintro rfl; rw [hg] at hj; cases hj)]; exact hj⟩

/-- one write after the other -/
theorem Wrote.go {g : Nat} {al : List AV} {b : Nat} {s : Str} (h : Wrote g al b s) {H : AH} [IsFn H] {t : Str} {a v : AV} (hb : Bd H b t a v) (hl : t.length + s.length < 100000000000) {i p : Nat} {l : Str} (hg : H.get i = some (.iter l p)) (hi : i ≠ b) :
    ∃ H' w a' v', EP g al H = some (.val w H') ∧ Bd H' b (t ++ s) a' v' ∧ IsFn H' ∧ H'.get i = some (.iter l p) := by
  obtain ⟨H', w, a', v', e, h1, h2, h3, h4⟩ := h H t a v hb hl
  exact ⟨H', w, a', v', e, h1, h2, h4 i _ hi hg (fun k cs e => by cases e)⟩

theorem hex_at (n : Nat) (h : n < 16) (kd : IntKind) (k : AV → Prop) : qIx (.str [48,49,50,51,52,53,54,55,56,57,97,98,99,100,101,102]) (.int kd (n : Int)) k = k (.int .u8 (hexs.getD n 0).toNat) := by
  have hh : n < hexs.length := h
  refine qIx_str ?_ kd k
  show hexs[n]? = some (hexs.getD n 0)
  simp [List.getD, hh]
theorem esc_at (n : Nat) (h : n < 8) (k : AV → Prop) : qIx (.str [34,92,47,98,102,110,114,116]) (.int .i64 (n : Int)) k = k (.int .u8 (escd.getD n 0).toNat) := by
  have hh : n < escd.length := h
  refine qIx_str ?_ .i64 k
  show escd[n]? = some (escd.getD n 0)
  simp [List.getD, hh]
theorem and15 : ∀ x : Fin 128, bits .and .i32 (x.val : Int) 15 = ((x.val % 16 : Nat) : Int) := by decide +kernel

end T
set_option linter.unusedVariables false
set_option linter.unusedSimpArgs false
set_option maxRecDepth 10000
namespace T
open Go Go.Aes Go.Proofs

/-! ### right texts side by side -/
theorem dN1 (n b1 b2 b3 : Nat) {b0 : Nat} (h : b0 < 128) : Lib.decodeN n b0 b1 b2 b3 = (b0, 1) := by unfold Lib.decodeN; rw [if_pos h]
theorem dN2 (b2 b3 : Nat) {n b0 b1 : Nat} (h : b0 / 32 = 6) (hn : 1 < n) (h1 : b1 / 64 = 2) (hc : 128 ≤ b0 % 32 * 64 + b1 % 64) : Lib.decodeN n b0 b1 b2 b3 = (b0 % 32 * 64 + b1 % 64, 2) := by
  unfold Lib.decodeN; rw [if_neg (by omega), if_pos ⟨h, hn, h1⟩, if_pos hc]
theorem dN3 (b3 : Nat) {n b0 b1 b2 : Nat} (h : b0 / 16 = 14) (hn : 2 < n) (h1 : b1 / 64 = 2) (h2 : b2 / 64 = 2) (hc : 2048 ≤ b0 % 16 * 4096 + b1 % 64 * 64 + b2 % 64)
    (hs : b0 % 16 * 4096 + b1 % 64 * 64 + b2 % 64 < 55296 ∨ 57344 ≤ b0 % 16 * 4096 + b1 % 64 * 64 + b2 % 64) : Lib.decodeN n b0 b1 b2 b3 = (b0 % 16 * 4096 + b1 % 64 * 64 + b2 % 64, 3) := by
  unfold Lib.decodeN; rw [if_neg (by omega), if_neg (by omega), if_pos ⟨h, ⟨by omega, h1⟩, hn, h2⟩, if_pos ⟨hc, by omega⟩]
theorem dN4 {n b0 b1 b2 b3 : Nat} (h : b0 / 8 = 30) (hn : 3 < n) (h1 : b1 / 64 = 2) (h2 : b2 / 64 = 2) (h3 : b3 / 64 = 2) (hc : 65536 ≤ b0 % 8 * 262144 + b1 % 64 * 4096 + b2 % 64 * 64 + b3 % 64)
    (hs : b0 % 8 * 262144 + b1 % 64 * 4096 + b2 % 64 * 64 + b3 % 64 ≤ 1114111) : Lib.decodeN n b0 b1 b2 b3 = (b0 % 8 * 262144 + b1 % 64 * 4096 + b2 % 64 * 64 + b3 % 64, 4) := by
  unfold Lib.decodeN; rw [if_neg (by omega), if_neg (by omega), if_neg (by omega), if_pos ⟨h, ⟨by omega, h1⟩, ⟨by omega, h2⟩, hn, h3⟩, if_pos ⟨hc, by omega⟩]

def Bad (l : Str) : Prop := (Lib.decodeL l).1 = 65533 ∧ (Lib.decodeL l).2 = 1
theorem getD_l (a x : Str) (i : Nat) (h : i < a.length) : (a ++ x).getD i 0 = a.getD i 0 := by
  simp [List.getD, List.getElem?_append_left h]
theorem getD_r (a x : Str) : (a ++ x).getD a.length 0 = x.getD 0 0 := by
  simp [List.getD, List.getElem?_append_right (Nat.le_refl _)]

theorem dec_app {a : Str} (x : Str) (ha : a ≠ []) (h : ¬ Bad a) : Lib.decodeL (a ++ x) = Lib.decodeL a := by
  have hl : 0 < a.length := List.length_pos_iff.2 ha
  unfold Bad at h
  rw [Lib.decodeL_N] at h ⊢
  rw [Lib.decodeL_N]
  have hn : (a ++ x).length = a.length + x.length := List.length_append
  have g0 := getD_l a x 0 hl
  rcases Lib.decodeN_shape a.length (a.getD 0 0).toNat (a.getD 1 0).toNat (a.getD 2 0).toNat (a.getD 3 0).toNat with ⟨c, e⟩ | ⟨c1, c2, c1003, cv, e⟩ | ⟨c1, c2, c1003, c1004, cv, cs, e⟩ | ⟨c1, c2, c1003, c1004, c1005, cv, cw, e⟩ | e
  · rw [e, g0]; exact dN1 _ _ _ _ c
  · rw [e, g0, getD_l a x 1 c2]; exact dN2 _ _ c1 (by omega) c1003 cv
  · rw [e, g0, getD_l a x 1 (by omega), getD_l a x 2 c2]; exact dN3 _ c1 (by omega) c1003 c1004 cv cs
  · rw [e, g0, getD_l a x 1 (by omega), getD_l a x 2 (by omega), getD_l a x 3 c2]; exact dN4 c1 (by omega) c1003 c1004 c1005 cv cw
  · rw [e] at h; exact absurd ⟨rfl, rfl⟩ h

/-- what may not go on a code point -/
def Halt (x : Str) : Prop := ∀ c r, x = c :: r → c.toNat / 64 ≠ 2
theorem halt_0 {x : Str} (h : Halt x) : (x.getD 0 0).toNat / 64 ≠ 2 := by
  cases x with
  | nil => decide
  | cons c r => exact h c r rfl
theorem dec_bad {a x : Str} (ha : a ≠ []) (h : Bad a) (hx : Halt x) : Bad (a ++ x) := by
  have hl : 0 < a.length := List.length_pos_iff.2 ha
  unfold Bad at h ⊢
  rw [Lib.decodeL_N] at h ⊢
  have hn : (a ++ x).length = a.length + x.length := List.length_append
  have g0 := getD_l a x 0 hl
  have h0 := halt_0 hx
  have gr := getD_r a x
  have lt := (a.getD 0 0).toNat_lt
  rcases Lib.decodeN_shape (a ++ x).length ((a ++ x).getD 0 0).toNat ((a ++ x).getD 1 0).toNat ((a ++ x).getD 2 0).toNat ((a ++ x).getD 3 0).toNat with ⟨c, e⟩ | ⟨c1, c2, c1003, cv, e⟩ | ⟨c1, c2, c1003, c1004, cv, cs, e⟩ | ⟨c1, c2, c1003, c1004, c1005, cv, cw, e⟩ | e
  · rw [g0] at c
    rw [dN1 _ _ _ _ c] at h
    omega
  · rcases Nat.lt_or_ge 1 a.length with k | k
    · rw [g0] at c1 cv
      rw [getD_l a x 1 k] at c1003 cv
      rw [dN2 _ _ c1 k c1003 cv] at h
      simp at h
    · have k1 : a.length = 1 := by omega
      rw [k1] at gr
      rw [gr] at c1003
      exact absurd c1003 h0
  · rcases Nat.lt_or_ge 2 a.length with k | k
    · rw [g0] at c1 cv cs
      rw [getD_l a x 1 (by omega)] at c1003 cv cs
      rw [getD_l a x 2 k] at c1004 cv cs
      rw [dN3 _ c1 k c1003 c1004 cv cs] at h
      simp at h
    · rcases (by omega : a.length = 1 ∨ a.length = 2) with k1 | k1
      · rw [k1] at gr; rw [gr] at c1003; exact absurd c1003 h0
      · rw [k1] at gr; rw [gr] at c1004; exact absurd c1004 h0
  · rcases Nat.lt_or_ge 3 a.length with k | k
    · rw [g0] at c1 cv cw
      rw [getD_l a x 1 (by omega)] at c1003 cv cw
      rw [getD_l a x 2 (by omega)] at c1004 cv cw
      rw [getD_l a x 3 k] at c1005 cv cw
      rw [dN4 c1 k c1003 c1004 c1005 cv cw] at h
      simp at h
    · rcases (by omega : a.length = 1 ∨ a.length = 2 ∨ a.length = 3) with k1 | k1 | k1
      · rw [k1] at gr; rw [gr] at c1003; exact absurd c1003 h0
      · rw [k1] at gr; rw [gr] at c1004; exact absurd c1004 h0
      · rw [k1] at gr; rw [gr] at c1005; exact absurd c1005 h0
  · rw [e]; exact ⟨rfl, rfl⟩

instance (l : Str) : Decidable (Bad l) := by unfold Bad; infer_instance
theorem vstep (l : Str) (h : l ≠ []) : Lib.validD l = if Bad l then false else Lib.validD (l.drop (Lib.decodeL l).2) := by
  by_cases hb : Bad l
  · have hb' : (Lib.decodeL l).1 = 65533 ∧ (Lib.decodeL l).2 = 1 := hb
    rw [if_pos hb, Lib.validD_step l h, if_pos hb']
  · have hb' : ¬ ((Lib.decodeL l).1 = 65533 ∧ (Lib.decodeL l).2 = 1) := hb
    rw [if_neg hb, Lib.validD_step l h, if_neg hb']
theorem validD_app (x : Str) : ∀ (n : Nat) (a : Str), a.length ≤ n → Lib.validD a = true → Lib.validD (a ++ x) = Lib.validD x := by
  intro n
  induction n with
  | zero =>
    intro a hl _
    obtain rfl : a = [] := List.eq_nil_of_length_eq_zero (by omega)
    rfl
  | succ n ih =>
    intro a hl hv
    by_cases ha : a = []
    · subst ha; rfl
    · rw [vstep a ha] at hv
      by_cases hb : Bad a
      · rw [if_pos hb] at hv; cases hv
      · rw [if_neg hb] at hv
        have hw := Lib.decodeL_width a
        have hle := Lib.decodeL_le a ha
        have hd := dec_app x ha hb
        have hb' : ¬ Bad (a ++ x) := by unfold Bad; rw [hd]; exact hb
        rw [vstep (a ++ x) (by simp [ha]), if_neg hb', hd, List.drop_append_of_le_length hle]
        exact ih _ (by rw [List.length_drop]; omega) hv
theorem validD_bad {x : Str} (hx : Halt x) : ∀ (n : Nat) (a : Str), a.length ≤ n → Lib.validD a = false → Lib.validD (a ++ x) = false := by
  intro n
  induction n with
  | zero =>
    intro a hl h
    obtain rfl : a = [] := List.eq_nil_of_length_eq_zero (by omega)
    cases h
  | succ n ih =>
    intro a hl hv
    by_cases ha : a = []
    · subst ha; cases hv
    · rw [vstep a ha] at hv
      by_cases hb : Bad a
      · rw [vstep (a ++ x) (by simp [ha]), if_pos (dec_bad ha hb hx)]
      · rw [if_neg hb] at hv
        have hw := Lib.decodeL_width a
        have hle := Lib.decodeL_le a ha
        have hd := dec_app x ha hb
        have hb' : ¬ Bad (a ++ x) := by unfold Bad; rw [hd]; exact hb
        rw [vstep (a ++ x) (by simp [ha]), if_neg hb', hd, List.drop_append_of_le_length hle]
        exact ih _ (by rw [List.length_drop]; omega) hv
theorem valid_halt {x : Str} (h : Lib.validD x = true) : Halt x := by
  intro c r e hc
  subst e
  rw [vstep _ (by simp)] at h
  rw [if_pos] at h
  · cases h
  · unfold Bad
    rw [Lib.decodeL_N]
    have hg : (c :: r).getD 0 0 = c := rfl
    rw [hg]
    rcases Lib.decodeN_shape (c :: r).length c.toNat ((c :: r).getD 1 0).toNat ((c :: r).getD 2 0).toNat ((c :: r).getD 3 0).toNat with ⟨c, e⟩ | ⟨c1, c2, c1003, cv, e⟩ | ⟨c1, c2, c1003, c1004, cv, cs, e⟩ | ⟨c1, c2, c1003, c1004, c1005, cv, cw, e⟩ | e
    · omega
    · omega
    · omega
    · omega
    · rw [e]; exact ⟨rfl, rfl⟩
end T
