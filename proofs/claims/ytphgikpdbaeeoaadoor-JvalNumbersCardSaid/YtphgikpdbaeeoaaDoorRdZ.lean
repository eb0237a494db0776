import Derived.Test.YtphgikpdbaeeoaaDoorRdY
import Derived.Lib.MapLaws
import Derived.Lib.ValidLaws
import Derived.Lib.RuneBytes
set_option linter.all false
set_option linter.unusedVariables false
set_option linter.unusedSimpArgs false
set_option maxRecDepth 10000
namespace T
open Go Go.Aes Go.Proofs

/-! ### a builder -/
def bys (s : Str) : List AV := s.map fun b => .int .u8 b.toNat
def byR (s : Str) : List (List AV) := s.map fun b => [.int .u8 b.toNat]
theorem byR_flat : ∀ s : Str, (byR s).flatten = bys s
  | [] => rfl
  | b :: s => by
    show [AV.int .u8 b.toNat] ++ (byR s).flatten = _
    rw [byR_flat s]
    rfl
theorem bys_len (s : Str) : (bys s).length = s.length := by simp [bys]
theorem byR_len (s : Str) : (byR s).length = s.length := by simp [byR]
theorem bys_app (a b : Str) : bys a ++ bys b = bys (a ++ b) := by simp [bys]
theorem bys_one : ∀ s : Str, allOne (bys s) = true
  | [] => rfl
  | b :: s => by
    have := bys_one s
    simp only [bys, List.map_cons, allOne_cons, one_int, Bool.true_and] at this ⊢
    exact this
theorem bytesK_bys : ∀ s : Str, bytesK (bys s) = some s
  | [] => rfl
  | b :: s => by
    have h := bytesK_bys s
    have hb := b.toNat_lt
    simp only [bys, List.map_cons, bytesK] at h ⊢
    rw [h]
    have e1 : decide (0 ≤ (b.toNat : Int)) = true := by simp
    have e2 : decide ((b.toNat : Int) < 256) = true := by simp; omega
    rw [e1, e2]
    simp

/-- a row of bytes that is appended to -/
def Bf (H : AH) (v : AV) (s : Str) : Prop := (s = [] ∧ v = .sl [] .nil) ∨ (s ≠ [] ∧ ∃ j, v = .hsl j 0 s.length s.length 1 true ∧ H.get j = some (.obj 5 1 (bys s)))
structure Bd (H : AH) (b : Nat) (s : Str) (a v : AV) : Prop where
  get : H.get b = some (.obj 63 0 [a, v])
  own : a = .nilp ∨ a = .ptr b 0
  row : Bf H v s
/-- all but rows of bytes and the builder stay -/
def Bk (H H' : AH) (b : Nat) : Prop := ∀ i o, i ≠ b → H.get i = some o → (∀ k cs, o ≠ .obj 5 k cs) → H'.get i = some o
theorem Bk.refl (H : AH) (b : Nat) : Bk H H b := fun _ _ _ h _ => h
theorem Bk.trans {H H1 H2 : AH} {b : Nat} (h : Bk H H1 b) (k : Bk H1 H2 b) : Bk H H2 b := fun i o hi hg hn => k i o hi (h i o hi hg hn) hn

theorem Bf.one {H : AH} {v : AV} {s : Str} (h : Bf H v s) : one v = true := by
  rcases h with ⟨_, rfl⟩ | ⟨_, j, rfl, _⟩ <;> rfl
theorem Bf.keep {H H' : AH} {v : AV} {s : Str} (h : Bf H v s) (k : ∀ j cs, H.get j = some (.obj 5 1 cs) → H'.get j = some (.obj 5 1 cs)) : Bf H' v s := by
  rcases h with h | ⟨h1, j, h2, h3⟩
  · exact .inl h
  · exact .inr ⟨h1, j, h2, k _ _ h3⟩

theorem app_bf {H : AH} [IsFn H] {v x : AV} {t s : Str} (h : Bf H v t) (hx : readRows 1 x H = some (byR s)) (hl : t.length + s.length < 100000000000) :
    ∃ v' H', (∀ k : AV → AH → Prop, qApp 1 1 v x true (some 5) H k = k v' H') ∧ Bf H' v' (t ++ s) ∧ IsFn H' ∧ H.nx ≤ H'.nx ∧ (∀ i o, H.get i = some o → (∀ k cs, o ≠ .obj 5 k cs) → H'.get i = some o) := by
  have hem : (byR s).isEmpty = s.isEmpty := by cases s <;> rfl
  by_cases hs : s = []
  · subst hs
    refine ⟨v, H, fun k => ?_, by rw [List.append_nil]; exact h, inferInstance, Nat.le_refl _, fun i o hg _ => hg⟩
    have : app 1 1 v x true (some 5) H = some (v, H) := by
      unfold app
      rw [hx]
      rcases h with ⟨rfl, rfl⟩ | ⟨hne, j, rfl, hg⟩
      · rfl
      · have hb : ((t.length + 0) * (1 + 1)).blt most = true := by rw [Nat.blt_eq]; unfold most; omega
        have ho := okI_i (lt_i hg)
        have hb' : ((t.length + (byR ([] : Str)).length) * (1 + 1)).blt most = true := hb
        simp only [hb', ho]
        rfl
    unfold qApp
    rw [this, qHp_some]
  · have he : (byR s).isEmpty = false := by rw [hem]; cases s with
      | nil => exact absurd rfl hs
      | cons b s => rfl
    have hfl : allOne (byR s).flatten = true := by rw [byR_flat]; exact bys_one s
    rcases h with ⟨rfl, rfl⟩ | ⟨hne, j, rfl, hg⟩
    · refine ⟨_, _, fun k => ?_, .inr ⟨by simpa using hs, H.nx, rfl, get_push_at _⟩, inferInstance, by rw [nx_push_i]; omega, fun i o hi _ => by rw [get_push_lt _ (lt_i hi)]; exact hi⟩
      have hb : (s.length * (1 + 1)).blt most = true := by rw [Nat.blt_eq]; unfold most; simp at hl; omega
      have hap : app 1 1 (.sl [] .nil) x true (some 5) H = some (.hsl H.nx 0 s.length s.length 1 true, H.push (.obj 5 1 (bys s))) := by
        unfold app
        rw [hx]
        simp only [hb, he, new_i, AO.mkT, List.nil_append, byR_flat, List.length_nil, Nat.zero_add, byR_len]
        rfl
      unfold qApp
      rw [hap, qHp_some]
      rfl
    · have htl := lt_i hg
      have hb : ((t.length + s.length) * (1 + 1)).blt most = true := by rw [Nat.blt_eq]; unfold most; omega
      have hsl : slice? (bys t) 0 (t.length * 1) = some (bys t) := slice_whole _ _ (by rw [bys_len]; omega)
      have hap : app 1 1 (.hsl j 0 t.length t.length 1 true) x true (some 5) H = some (.hsl H.nx 0 (t.length + s.length) (t.length + s.length) 1 true, (H.set j none).push (.obj 5 1 (bys (t ++ s)))) := by
        unfold app
        rw [hx]
        have e1 : AO.unT (some 5) (.obj 5 1 (bys t)) = some (bys t) := rfl
        simp only [hb, okI_i htl, bys_one, he, hg, e1, hsl, new_i, AO.mkT, byR_flat, bys_app, byR_len, AH.nx_set]
        rfl
      refine ⟨_, (H.set j none).push (.obj 5 1 (bys (t ++ s))), fun k => ?_, .inr ⟨by simp [hne], H.nx, by rw [List.length_append], ?_⟩, inferInstance, by rw [nx_push_i, AH.nx_set]; omega, fun i o hi hn => ?_⟩
      · unfold qApp
        rw [hap, qHp_some]
      · have := get_push_at (H := H.set j none) (.obj 5 1 (bys (t ++ s)))
        rwa [AH.nx_set] at this
      · have hij : i ≠ j := by
          rintro rfl
          rw [hg] at hi
          injection hi with hi
          exact hn _ _ hi.symm
        rw [get_push_lt _ (by rw [AH.nx_set]; exact lt_i hi), get_set_i htl, if_neg hij]
        exact hi

theorem qSt_obj {H : AH} [IsFn H] {i o t : Nat} {cs : List AV} {v : AV} (hg : H.get i = some (.obj t 0 cs)) (ho : o < cs.length) (hv : one v = true) (k : AV → AH → Prop) :
    qSt 1 (.ptr i o) v H k = k Aes.undef (H.set i (some (.obj t 0 (cs.set o v)))) := by
  have hc := one_cells hv
  have hb : (v.cells.length.beq 1 && allOne v.cells && H.okI i) = true := by
    rw [hc, okI_i (lt_i hg)]
    simp [allOne, hv]
  rw [qSt_ptr]
  simp only [hb, cond_true, hg, stK_obj]
  rw [hc, setRange_one cs o v ho, qO_some]

/-- the copy check -/
theorem ep75 {H : AH} [IsFn H] {b : Nat} {s : Str} {a v : AV} (h : Bd H b s a v) : ∃ H', EP 75 [.ptr b 0] H = some (.val Aes.undef H') ∧ Bd H' b s (.ptr b 0) v ∧ IsFn H' ∧ H.nx ≤ H'.nx ∧ Bk H H' b := by
  have hlt := lt_i h.get
  rcases h.own with rfl | rfl
  · refine ⟨H.set b (some (.obj 63 0 [.ptr b 0, v])), evO_O rfl ?_, ⟨by rw [get_set_i hlt, if_pos rfl], .inr rfl, h.row.keep fun j cs hj => ?_⟩, inferInstance, by rw [AH.nx_set]; omega, fun i o hi hg _ => by rw [get_set_i hlt, if_neg hi]; exact hg⟩
    · have : OF2 75 [.ptr b 0] H = oCC [.ptr b 0] H := rfl
      rw [this]
      simp only [oCC, h.get, okI_i hlt]
      rfl
    · rw [get_set_i hlt, if_neg (by rintro rfl; rw [h.get] at hj; cases hj)]
      exact hj
  · refine ⟨H, evO_O rfl ?_, h, inferInstance, Nat.le_refl _, .refl _ _⟩
    have : OF2 75 [.ptr b 0] H = oCC [.ptr b 0] H := rfl
    rw [this]
    simp only [oCC, h.get, Nat.beq_refl]
    rfl

theorem bd_app {H : AH} [IsFn H] {b : Nat} {t s : Str} {a v x : AV} (h : Bd H b t a v) (hx : readRows 1 x H = some (byR s)) (hl : t.length + s.length < 100000000000) :
    ∃ v' H1 H', (∀ k : AV → AH → Prop, qApp 1 1 v x true (some 5) H k = k v' H1) ∧ (∀ k : AV → AH → Prop, qSt 1 (.ptr b 1) v' H1 k = k Aes.undef H') ∧ Bd H' b (t ++ s) a v' ∧ IsFn H' ∧ H.nx ≤ H'.nx ∧ Bk H H' b := by
  obtain ⟨v', H1, a1, a2, a3, a4, a5⟩ := app_bf h.row hx hl
  have g1 := a5 b _ h.get (fun k cs e => by cases e)
  have hlt := lt_i g1
  refine ⟨v', H1, _, a1, fun k => qSt_obj g1 (by simp) a2.one k, ⟨by rw [get_set_i hlt, if_pos rfl]; rfl, h.own, a2.keep fun j cs hj => ?_⟩, inferInstance, by rw [AH.nx_set]; exact a4, fun i o hi hg hn => ?_⟩
  · rw [get_set_i hlt, if_neg (by rintro rfl; rw [g1] at hj; cases hj)]; exact hj
  · rw [get_set_i hlt, if_neg hi]; exact a5 i o hg hn

/-- what a write does -/
def Wrote (g : Nat) (al : List AV) (b : Nat) (s : Str) : Prop := ∀ (H : AH) [IsFn H] (t : Str) (a v : AV), Bd H b t a v → t.length + s.length < 100000000000 →
  ∃ H' w a' v', EP g al H = some (.val w H') ∧ Bd H' b (t ++ s) a' v' ∧ IsFn H' ∧ H.nx ≤ H'.nx ∧ Bk H H' b

theorem wr53 (b : Nat) (s : Str) : Wrote 53 [.ptr b 0, .str s] b s := by
  intro H _ t a v h hl
  obtain ⟨H1, e75, h1, f1, n1, k1⟩ := ep75 h
  obtain ⟨v', H2, H3, q1, q2, h3, f3, n3, k3⟩ := bd_app (x := .str s) h1 rfl hl
  have l1 := fun k => ldO (R := Prop) h1.get 1 _ rfl k
  have la : (bys s).length = s.length := bys_len s
  obtain ⟨w, H', e, hq⟩ := ao_form (X := X) (D := OD2) (O := OF2) (S := PS) (al := [.ptr b 0, .str s]) (H := H) e53 xf53 rfl rfl (Q := fun w H' => ∃ a' v', Bd H' b (t ++ s) a' v' ∧ IsFn H' ∧ H.nx ≤ H'.nx ∧ Bk H H' b) (by
    simp -implicitDefEqProofs only [c53, r53_0, r53_1, r53_2, r53_3, opn_z, opn_s, sel_z, sel_s, qCd_eq, qIf_true, qIf_false, qFn_eq, qBl_eq, qO_some, qRes_val, qHp_some, qPick_true, qPick_false, qG_tt, qG_ff, qG_tf, qG_ft, cellsK_some, qLd_vptr, qLdA_vptr, qFa_ptr, qFa_vptr, qNc_ptr, qNc_vptr, qNc_fn, qNot_bool, qExt_tup, qCallV_fn, qLss_int, qLeq_int, qGtr_int, qGeq_int, qEql_int, qNeq_int, qAdd_int, qSub_int, qMul_int, qConvI_int, qLenL_sl, qLenL_hsl, qLenS_str, foldO, min2_int, max2_int, qSame_refl, Nat.zero_add, List.getElem?_cons_zero, List.getElem?_cons_succ, List.nil_append, List.cons_append, List.append_nil, one_bool, one_int, one_str, one_nilp, one_ptr, one_sl, one_hsl, one_map, one_fn, List.length_cons, List.length_nil, List.set_cons_zero, List.set_cons_succ, Nat.reduceLT, Nat.reduceAdd, qG_un, e75, l1, q1, q2]
    exact ⟨_, _, h3, f3, by omega, k1.trans k3⟩)
  obtain ⟨a', v'', hh, f, n, k⟩ := hq
  exact ⟨H', w, a', v'', e, hh, f, n, k⟩

theorem rows5 (c : UInt8) (k : AV → Prop) : qRows z5 1 [(0, .int .u8 c.toNat)] k = k (.sl [[.int .u8 c.toNat]] .full) := rfl
theorem wr51 (b : Nat) (c : UInt8) : Wrote 51 [.ptr b 0, .int .u8 (c.toNat : Int)] b [c] := by
  intro H _ t a v h hl
  obtain ⟨H1, e75, h1, f1, n1, k1⟩ := ep75 h
  obtain ⟨v', H2, H3, q1, q2, h3, f3, n3, k3⟩ := bd_app (x := .sl [[.int .u8 c.toNat]] .full) (s := [c]) h1 rfl hl
  have l1 := fun k => ldO (R := Prop) h1.get 1 _ rfl k
  obtain ⟨w, H', e, hq⟩ := ao_form (X := X) (D := OD2) (O := OF2) (S := PS) (al := [.ptr b 0, .int .u8 (c.toNat : Int)]) (H := H) e51 xf51 rfl rfl (Q := fun w H' => ∃ a' v', Bd H' b (t ++ [c]) a' v' ∧ IsFn H' ∧ H.nx ≤ H'.nx ∧ Bk H H' b) (by
    simp -implicitDefEqProofs only [c51, r51_0, r51_1, r51_2, r51_3, opn_z, opn_s, sel_z, sel_s, qCd_eq, qIf_true, qIf_false, qFn_eq, qBl_eq, qO_some, qRes_val, qHp_some, qPick_true, qPick_false, qG_tt, qG_ff, qG_tf, qG_ft, cellsK_some, qLd_vptr, qLdA_vptr, qFa_ptr, qFa_vptr, qNc_ptr, qNc_vptr, qNc_fn, qNot_bool, qExt_tup, qCallV_fn, qLss_int, qLeq_int, qGtr_int, qGeq_int, qEql_int, qNeq_int, qAdd_int, qSub_int, qMul_int, qConvI_int, qLenL_sl, qLenL_hsl, qLenS_str, foldO, min2_int, max2_int, qSame_refl, Nat.zero_add, List.getElem?_cons_zero, List.getElem?_cons_succ, List.nil_append, List.cons_append, List.append_nil, one_bool, one_int, one_str, one_nilp, one_ptr, one_sl, one_hsl, one_map, one_fn, List.length_cons, List.length_nil, List.set_cons_zero, List.set_cons_succ, Nat.reduceLT, Nat.reduceAdd, qG_un, e75, l1, rows5, q1, q2]
    exact ⟨_, _, h3, f3, by omega, k1.trans k3⟩)
  obtain ⟨a', v'', hh, f, n, k⟩ := hq
  exact ⟨H', w, a', v'', e, hh, f, n, k⟩

theorem ep48 {H : AH} [IsFn H] {b : Nat} {s : Str} {a v : AV} (h : Bd H b s a v) (hl : s.length < 100000000000) : ∃ H', EP 48 [.ptr b 0] H = some (.val (.str s) H') ∧ IsFn H' ∧ H.nx ≤ H'.nx ∧ Bk H H' b := by
  have e : OF2 48 [.ptr b 0] H = oStr [.ptr b 0] H := rfl
  rcases h.row with ⟨rfl, rfl⟩ | ⟨hne, j, rfl, hg⟩
  · refine ⟨H, evO_O rfl ?_, inferInstance, Nat.le_refl _, .refl _ _⟩
    rw [e]
    simp only [oStr, h.get]
    rfl
  · have hlt := lt_i hg
    refine ⟨H.set j (some (.obj 5 2 (bys s))), evO_O rfl ?_, inferInstance, by rw [AH.nx_set]; omega, fun i o hi hgo hn => ?_⟩
    · rw [e]
      have h1 : s.length.beq 0 = false := by cases s with
        | nil => exact absurd rfl hne
        | cons b s => rfl
      have h2 : s.length.ble (bys s).length = true := by rw [bys_len]; simp
      have h3 : s.length.ble 9223372036854775807 = true := by rw [Nat.ble_eq]; omega
      have h4 : (bys s).take s.length = bys s := List.take_of_length_le (by rw [bys_len]; omega)
      simp only [oStr, h.get, hg, h1, h2, h3, okI_i hlt, h4, bytesK_bys, Nat.beq_refl]
      rfl
    · rw [get_set_i hlt, if_neg]
      · exact hgo
      · rintro rfl
        rw [hg] at hgo
        injection hgo with hgo
        exact hn _ _ hgo.symm
end T
set_option linter.unusedVariables false
set_option linter.unusedSimpArgs false
set_option maxRecDepth 10000
namespace T
open Go Go.Aes Go.Proofs

/-! ### a rune's bytes are written -/
theorem shr_i32 (a : Int) (s : Nat) (hs : s ≤ 31) : binop X .shr 21 (.int .i32 a) (.int .u64 (s : Int)) = some (.int .i32 (a / 2 ^ s)) := by
  show ofSem (Op.shift .shr .i32 a .u64 (s : Int)) = _
  rw [shift_shr .i32 .u64 a (s : Int) (by omega) (by show (s : Int) ≤ 32; omega)]
  simp only [Int.toNat_natCast]
  rfl
theorem and_u8 (a b : Int) : binop X .and 5 (.int .u8 a) (.int .u8 b) = some (.int .u8 (bits .and .u8 a b)) := rfl
theorem or_u8 (a b : Int) : binop X .or 5 (.int .u8 a) (.int .u8 b) = some (.int .u8 (bits .or .u8 a b)) := rfl
theorem and63 : ∀ x : Fin 256, bits .and .u8 (x.val : Int) 63 = ((x.val % 64 : Nat) : Int) := by decide +kernel
theorem or128 : ∀ x : Fin 64, bits .or .u8 128 (x.val : Int) = ((128 + x.val : Nat) : Int) := by decide +kernel
theorem or192 : ∀ x : Fin 32, bits .or .u8 192 (x.val : Int) = ((192 + x.val : Nat) : Int) := by decide +kernel
theorem or224 : ∀ x : Fin 16, bits .or .u8 224 (x.val : Int) = ((224 + x.val : Nat) : Int) := by decide +kernel
theorem or240 : ∀ x : Fin 8, bits .or .u8 240 (x.val : Int) = ((240 + x.val : Nat) : Int) := by decide +kernel
theorem wrap_u8 (r : Nat) : IntKind.u8.wrap (r : Int) = ((r % 256 : Nat) : Int) := by
  show ((r : Int) % 2 ^ 8) = _
  omega
/-- a byte that follows -/
theorem tail_b (r : Nat) : bits .or .u8 128 (bits .and .u8 (IntKind.u8.wrap (r : Int)) 63) = ((128 + r % 64 : Nat) : Int) := by
  have h1 := and63 ⟨r % 256, Nat.mod_lt _ (by omega)⟩
  have h2 := or128 ⟨r % 64, Nat.mod_lt _ (by omega)⟩
  simp only at h1 h2
  rw [wrap_u8, h1, show r % 256 % 64 = r % 64 by omega, h2]

def okR (r : Nat) : Prop := r < 55296 ∨ (57343 < r ∧ r ≤ 1114111)
def encR (r : Nat) : Str := Lib.encodeRune (r : Int)
theorem enc1 {r : Nat} (h : r < 128) : bys (encR r) = [.int .u8 (r : Int)] := by
  unfold encR Lib.encodeRune
  rw [Lib.encodeRuneZ_one (by omega) (by omega)]
  simp [bys]; omega
theorem enc2 {r : Nat} (h : 128 ≤ r) (h2 : r < 2048) : bys (encR r) = [.int .u8 ((192 + r / 64 : Nat) : Int), .int .u8 ((128 + r % 64 : Nat) : Int)] := by
  unfold encR Lib.encodeRune
  rw [Lib.encodeRuneZ_two (by omega) (by omega)]
  simp [bys]; omega
theorem enc3 {r : Nat} (h : 2048 ≤ r) (h2 : r < 65536) (hv : okR r) : bys (encR r) = [.int .u8 ((224 + r / 4096 : Nat) : Int), .int .u8 ((128 + r / 64 % 64 : Nat) : Int), .int .u8 ((128 + r % 64 : Nat) : Int)] := by
  unfold okR at hv
  unfold encR Lib.encodeRune
  rw [Lib.encodeRuneZ_three (by omega)]
  simp [bys]; omega
theorem enc4 {r : Nat} (h : 65536 ≤ r) (h2 : r ≤ 1114111) : bys (encR r) = [.int .u8 ((240 + r / 262144 : Nat) : Int), .int .u8 ((128 + r / 4096 % 64 : Nat) : Int), .int .u8 ((128 + r / 64 % 64 : Nat) : Int), .int .u8 ((128 + r % 64 : Nat) : Int)] := by
  unfold encR Lib.encodeRune
  rw [Lib.encodeRuneZ_four (by omega) (by omega)]
  simp [bys]; omega
theorem encR_len (r : Nat) : (encR r).length ≤ 4 := by
  unfold encR Lib.encodeRune
  have := (Lib.encodeRuneZ_length (r : Int)).2
  simpa using this

def rowsB (l : List AV) : List (List AV) := l.map fun a => [a]
theorem rowsB_bys (s : Str) : rowsB (bys s) = byR s := by simp [rowsB, bys, byR, Function.comp_def]

theorem row1 (a : Int) (k : AV → Prop) : qRows z5 1 [(0, .int .u8 a)] k = k (.sl [[.int .u8 a]] .full) := rfl
theorem row2 (a b : Int) (k : AV → Prop) : qRows z5 2 [(0, .int .u8 a), (1, .int .u8 b)] k = k (.sl [[.int .u8 a], [.int .u8 b]] .full) := rfl
theorem row3 (a b c : Int) (k : AV → Prop) : qRows z5 3 [(0, .int .u8 a), (1, .int .u8 b), (2, .int .u8 c)] k = k (.sl [[.int .u8 a], [.int .u8 b], [.int .u8 c]] .full) := rfl
theorem row4 (a b c d : Int) (k : AV → Prop) : qRows z5 4 [(0, .int .u8 a), (1, .int .u8 b), (2, .int .u8 c), (3, .int .u8 d)] k = k (.sl [[.int .u8 a], [.int .u8 b], [.int .u8 c], [.int .u8 d]] .full) := rfl

theorem wrap_u32 {r : Nat} (h : r ≤ 1114111) : IntKind.u32.wrap (r : Int) = (r : Int) := by
  show ((r : Int) % 2 ^ 32) = _
  omega

/-- appended to a row of bytes -/
def Apd (g : Nat) (r : Nat) : Prop := ∀ (H : AH) [IsFn H] (t : Str) (v : AV), Bf H v t → t.length + 4 < 100000000000 →
  ∃ v' H', EP g [v, .int .i32 (r : Int)] H = some (.val v' H') ∧ Bf H' v' (t ++ encR r) ∧ IsFn H' ∧ H.nx ≤ H'.nx ∧ (∀ i o, H.get i = some o → (∀ k cs, o ≠ .obj 5 k cs) → H'.get i = some o)

theorem sh6 (r : Nat) : ((r : Int) / 2 ^ 6) = ((r / 64 : Nat) : Int) := by omega
theorem sh12 (r : Nat) : ((r : Int) / 2 ^ 12) = ((r / 4096 : Nat) : Int) := by omega
theorem sh18 (r : Nat) : ((r : Int) / 2 ^ 18) = ((r / 262144 : Nat) : Int) := by omega

theorem ap95 (r : Nat) (h : 128 ≤ r) (hv : okR r) : Apd 95 r := by
  intro H _ t v hb hl
  unfold okR at hv
  have hx : ∀ l, bys (encR r) = l → readRows 1 (.sl (rowsB l) .full) H = some (byR (encR r)) := by
    rintro l rfl
    rw [rowsB_bys]
    simp only [readRows]
    have : ((byR (encR r)).all fun r => r.length.beq 1) = true := by
      rw [List.all_eq_true]
      intro x hx
      obtain ⟨y, _, rfl⟩ := List.mem_map.1 hx
      rfl
    rw [this]; rfl
  have hle := encR_len r
  have s6 : binop X .shr 21 (.int .i32 (r : Int)) (.int .u64 6) = some (.int .i32 ((r / 64 : Nat) : Int)) := by rw [← sh6]; exact shr_i32 (r : Int) 6 (by omega)
  have s12 : binop X .shr 21 (.int .i32 (r : Int)) (.int .u64 12) = some (.int .i32 ((r / 4096 : Nat) : Int)) := by rw [← sh12]; exact shr_i32 (r : Int) 12 (by omega)
  have s18 : binop X .shr 21 (.int .i32 (r : Int)) (.int .u64 18) = some (.int .i32 ((r / 262144 : Nat) : Int)) := by rw [← sh18]; exact shr_i32 (r : Int) 18 (by omega)
  have wu := wrap_u32 (r := r) (by omega)
  have t0 := tail_b r
  have t1 := tail_b (r / 64)
  have t2 := tail_b (r / 4096)
  have fin : ∀ l, bys (encR r) = l → ∃ v' H', (∀ k : AV → AH → Prop, qApp 1 1 v (.sl (rowsB l) .full) true (some 5) H k = k v' H') ∧ Bf H' v' (t ++ encR r) ∧ IsFn H' ∧ H.nx ≤ H'.nx ∧ (∀ i o, H.get i = some o → (∀ k cs, o ≠ .obj 5 k cs) → H'.get i = some o) :=
    fun l hl' => app_bf hb (hx l hl') (by omega)
  have hfr : (PS 95 && AV.frees (AV.kills [v, .int .i32 (r : Int)])) = false := rfl
  by_cases h2 : r < 2048
  · obtain ⟨v', H', q, a2, a3, a4, a5⟩ := fin _ (enc2 h h2)
    simp only [rowsB, List.map_cons, List.map_nil] at q
    have b0 : bits .or .u8 192 (IntKind.u8.wrap ((r / 64 : Nat) : Int)) = ((192 + r / 64 : Nat) : Int) := by
      rw [wrap_u8, Nat.mod_eq_of_lt (by omega)]; exact or192 ⟨r / 64, by omega⟩
    have c1 : (r : Int) ≤ 2047 := by omega
    refine ⟨v', H', ao_form_eq (X := X) (D := OD2) (O := OF2) (S := PS) e95 xf95 rfl hfr ?_, a2, a3, a4, a5⟩
    simp -implicitDefEqProofs only [c95, r95_0, r95_1, r95_3, r95_4, opn_z, opn_s, sel_z, sel_s, qCd_eq, qIf_true, qIf_false, qFn_eq, qBl_eq, qO_some, qRes_val, qHp_some, qPick_true, qPick_false, qG_tt, qG_ff, qG_tf, qG_ft, cellsK_some, qLd_ptr, qLd_vptr, qLdA_ptr, qLdA_vptr, qFa_ptr, qFa_vptr, qNc_ptr, qNc_vptr, qNc_fn, qNot_bool, qExt_tup, qCallV_fn, qLss_int, qLeq_int, qGtr_int, qGeq_int, qEql_int, qNeq_int, qAdd_int, qSub_int, qMul_int, qConvI_int, qLenL_sl, qLenL_hsl, qLenS_str, foldO, min2_int, max2_int, qSame_refl, Nat.zero_add, List.getElem?_cons_zero, List.getElem?_cons_succ, List.nil_append, List.cons_append, List.append_nil, one_bool, one_int, one_str, one_nilp, one_ptr, one_sl, one_hsl, one_map, one_fn, List.length_cons, List.length_nil, List.set_cons_zero, List.set_cons_succ, Nat.reduceLT, Nat.reduceAdd, qG_un, wu, c1, decide_true, s6, or_u8, and_u8, b0, t0, row2, q, and_self]
  have n2 : ¬ (r : Int) ≤ 2047 := by omega
  by_cases h3 : r < 65536
  · obtain ⟨v', H', q, a2, a3, a4, a5⟩ := fin _ (enc3 (by omega) h3 hv)
    simp only [rowsB, List.map_cons, List.map_nil] at q
    have b0 : bits .or .u8 224 (IntKind.u8.wrap ((r / 4096 : Nat) : Int)) = ((224 + r / 4096 : Nat) : Int) := by
      rw [wrap_u8, Nat.mod_eq_of_lt (by omega)]; exact or224 ⟨r / 4096, by omega⟩
    refine ⟨v', H', ao_form_eq (X := X) (D := OD2) (O := OF2) (S := PS) e95 xf95 rfl hfr ?_, a2, a3, a4, a5⟩
    by_cases h4 : r < 55296
    · have c3 : (r : Int) < 55296 := by omega
      simp -implicitDefEqProofs only [c95, r95_0, r95_1, r95_3, r95_5, r95_7, opn_z, opn_s, sel_z, sel_s, qCd_eq, qIf_true, qIf_false, qFn_eq, qBl_eq, qO_some, qRes_val, qHp_some, qPick_true, qPick_false, qG_tt, qG_ff, qG_tf, qG_ft, cellsK_some, qLd_ptr, qLd_vptr, qLdA_ptr, qLdA_vptr, qFa_ptr, qFa_vptr, qNc_ptr, qNc_vptr, qNc_fn, qNot_bool, qExt_tup, qCallV_fn, qLss_int, qLeq_int, qGtr_int, qGeq_int, qEql_int, qNeq_int, qAdd_int, qSub_int, qMul_int, qConvI_int, qLenL_sl, qLenL_hsl, qLenS_str, foldO, min2_int, max2_int, qSame_refl, Nat.zero_add, List.getElem?_cons_zero, List.getElem?_cons_succ, List.nil_append, List.cons_append, List.append_nil, one_bool, one_int, one_str, one_nilp, one_ptr, one_sl, one_hsl, one_map, one_fn, List.length_cons, List.length_nil, List.set_cons_zero, List.set_cons_succ, Nat.reduceLT, Nat.reduceAdd, qG_un, wu, n2, c3, decide_true, decide_false, s6, s12, or_u8, and_u8, b0, t0, t1, row3, q, and_self]
    · have c3 : ¬ (r : Int) < 55296 := by omega
      have c4 : (57343 : Int) < r := by omega
      have c5 : (r : Int) ≤ 65535 := by omega
      simp -implicitDefEqProofs only [c95, r95_0, r95_1, r95_3, r95_5, r95_6, r95_7, opn_z, opn_s, sel_z, sel_s, qCd_eq, qIf_true, qIf_false, qFn_eq, qBl_eq, qO_some, qRes_val, qHp_some, qPick_true, qPick_false, qG_tt, qG_ff, qG_tf, qG_ft, cellsK_some, qLd_ptr, qLd_vptr, qLdA_ptr, qLdA_vptr, qFa_ptr, qFa_vptr, qNc_ptr, qNc_vptr, qNc_fn, qNot_bool, qExt_tup, qCallV_fn, qLss_int, qLeq_int, qGtr_int, qGeq_int, qEql_int, qNeq_int, qAdd_int, qSub_int, qMul_int, qConvI_int, qLenL_sl, qLenL_hsl, qLenS_str, foldO, min2_int, max2_int, qSame_refl, Nat.zero_add, List.getElem?_cons_zero, List.getElem?_cons_succ, List.nil_append, List.cons_append, List.append_nil, one_bool, one_int, one_str, one_nilp, one_ptr, one_sl, one_hsl, one_map, one_fn, List.length_cons, List.length_nil, List.set_cons_zero, List.set_cons_succ, Nat.reduceLT, Nat.reduceAdd, qG_un, wu, n2, c3, c4, c5, decide_true, decide_false, s6, s12, or_u8, and_u8, b0, t0, t1, row3, q, and_self]
  · obtain ⟨v', H', q, a2, a3, a4, a5⟩ := fin _ (enc4 (by omega) (by omega))
    simp only [rowsB, List.map_cons, List.map_nil] at q
    have b0 : bits .or .u8 240 (IntKind.u8.wrap ((r / 262144 : Nat) : Int)) = ((240 + r / 262144 : Nat) : Int) := by
      rw [wrap_u8, Nat.mod_eq_of_lt (by omega)]; exact or240 ⟨r / 262144, by omega⟩
    refine ⟨v', H', ao_form_eq (X := X) (D := OD2) (O := OF2) (S := PS) e95 xf95 rfl hfr ?_, a2, a3, a4, a5⟩
    have c3 : ¬ (r : Int) < 55296 := by omega
    have c4 : (57343 : Int) < r := by omega
    have c5 : ¬ (r : Int) ≤ 65535 := by omega
    have c6 : (r : Int) > 65535 := by omega
    have c7 : (r : Int) ≤ 1114111 := by omega
    simp -implicitDefEqProofs only [c95, r95_0, r95_1, r95_3, r95_5, r95_6, r95_8, r95_9, opn_z, opn_s, sel_z, sel_s, qCd_eq, qIf_true, qIf_false, qFn_eq, qBl_eq, qO_some, qRes_val, qHp_some, qPick_true, qPick_false, qG_tt, qG_ff, qG_tf, qG_ft, cellsK_some, qLd_ptr, qLd_vptr, qLdA_ptr, qLdA_vptr, qFa_ptr, qFa_vptr, qNc_ptr, qNc_vptr, qNc_fn, qNot_bool, qExt_tup, qCallV_fn, qLss_int, qLeq_int, qGtr_int, qGeq_int, qEql_int, qNeq_int, qAdd_int, qSub_int, qMul_int, qConvI_int, qLenL_sl, qLenL_hsl, qLenS_str, foldO, min2_int, max2_int, qSame_refl, Nat.zero_add, List.getElem?_cons_zero, List.getElem?_cons_succ, List.nil_append, List.cons_append, List.append_nil, one_bool, one_int, one_str, one_nilp, one_ptr, one_sl, one_hsl, one_map, one_fn, List.length_cons, List.length_nil, List.set_cons_zero, List.set_cons_succ, Nat.reduceLT, Nat.reduceAdd, qG_un, wu, n2, c3, c4, c5, c6, c7, decide_true, decide_false, s6, s12, s18, or_u8, and_u8, b0, t0, t1, t2, row4, q, and_self]

theorem ap79 (r : Nat) (hv : okR r) : Apd 79 r := by
  intro H _ t v hb hl
  have hv' := hv
  unfold okR at hv'
  have wu := wrap_u32 (r := r) (by omega)
  have hfr : (PS 79 && AV.frees (AV.kills [v, .int .i32 (r : Int)])) = false := rfl
  by_cases h : r < 128
  · have c1 : (r : Int) ≤ 127 := by omega
    have wb : IntKind.u8.wrap (r : Int) = (r : Int) := by rw [wrap_u8]; omega
    have hx : readRows 1 (.sl [[.int .u8 (r : Int)]] .full) H = some (byR (encR r)) := by
      rw [← rowsB_bys, enc1 h]; rfl
    have hle := encR_len r
    obtain ⟨v', H', q, a2, a3, a4, a5⟩ := app_bf hb hx (by omega)
    refine ⟨v', H', ao_form_eq (X := X) (D := OD2) (O := OF2) (S := PS) e79 xf79 rfl hfr ?_, a2, a3, a4, a5⟩
    simp -implicitDefEqProofs only [c79, r79_0, r79_1, r79_2, opn_z, opn_s, sel_z, sel_s, qCd_eq, qIf_true, qIf_false, qFn_eq, qBl_eq, qO_some, qRes_val, qHp_some, qPick_true, qPick_false, qG_tt, qG_ff, qG_tf, qG_ft, cellsK_some, qLd_ptr, qLd_vptr, qLdA_ptr, qLdA_vptr, qFa_ptr, qFa_vptr, qNc_ptr, qNc_vptr, qNc_fn, qNot_bool, qExt_tup, qCallV_fn, qLss_int, qLeq_int, qGtr_int, qGeq_int, qEql_int, qNeq_int, qAdd_int, qSub_int, qMul_int, qConvI_int, qLenL_sl, qLenL_hsl, qLenS_str, foldO, min2_int, max2_int, qSame_refl, Nat.zero_add, List.getElem?_cons_zero, List.getElem?_cons_succ, List.nil_append, List.cons_append, List.append_nil, one_bool, one_int, one_str, one_nilp, one_ptr, one_sl, one_hsl, one_map, one_fn, List.length_cons, List.length_nil, List.set_cons_zero, List.set_cons_succ, Nat.reduceLT, Nat.reduceAdd, qG_un, wu, c1, decide_true, wb, row1, q, and_self]
  · have c1 : ¬ (r : Int) ≤ 127 := by omega
    obtain ⟨v', H', e, a2, a3, a4, a5⟩ := ap95 r (by omega) hv H t v hb hl
    refine ⟨v', H', ao_form_eq (X := X) (D := OD2) (O := OF2) (S := PS) e79 xf79 rfl hfr ?_, a2, a3, a4, a5⟩
    simp -implicitDefEqProofs only [c79, r79_0, r79_1, r79_3, opn_z, opn_s, sel_z, sel_s, qCd_eq, qIf_true, qIf_false, qFn_eq, qBl_eq, qO_some, qRes_val, qHp_some, qPick_true, qPick_false, qG_tt, qG_ff, qG_tf, qG_ft, cellsK_some, qLd_ptr, qLd_vptr, qLdA_ptr, qLdA_vptr, qFa_ptr, qFa_vptr, qNc_ptr, qNc_vptr, qNc_fn, qNot_bool, qExt_tup, qCallV_fn, qLss_int, qLeq_int, qGtr_int, qGeq_int, qEql_int, qNeq_int, qAdd_int, qSub_int, qMul_int, qConvI_int, qLenL_sl, qLenL_hsl, qLenS_str, foldO, min2_int, max2_int, qSame_refl, Nat.zero_add, List.getElem?_cons_zero, List.getElem?_cons_succ, List.nil_append, List.cons_append, List.append_nil, one_bool, one_int, one_str, one_nilp, one_ptr, one_sl, one_hsl, one_map, one_fn, List.length_cons, List.length_nil, List.set_cons_zero, List.set_cons_succ, Nat.reduceLT, Nat.reduceAdd, qG_un, wu, c1, decide_false, e, and_self]

theorem wr54 (b : Nat) (r : Nat) (hv : okR r) : ∀ (H : AH) [IsFn H] (t : Str) (a v : AV), Bd H b t a v → t.length + 4 < 100000000000 →
    ∃ H' w a' v', EP 54 [.ptr b 0, .int .i32 (r : Int)] H = some (.val w H') ∧ Bd H' b (t ++ encR r) a' v' ∧ IsFn H' ∧ H.nx ≤ H'.nx ∧ Bk H H' b := by
  intro H _ t a v h hl
  obtain ⟨H1, e75, h1, f1, n1, k1⟩ := ep75 h
  have l1 := fun k => ldO (R := Prop) h1.get 1 _ rfl k
  obtain ⟨v', H2, e79, b2, f2, n2, k2⟩ := ap79 r hv H1 t v h1.row hl
  have g2 := k2 b _ h1.get (fun k cs e => by cases e)
  have hlt := lt_i g2
  have q2 : ∀ k : AV → AH → Prop, qSt 1 (.ptr b 1) v' H2 k = k Aes.undef (H2.set b (some (.obj 63 0 [.ptr b 0, v']))) := fun k => qSt_obj (o := 1) g2 (by simp) b2.one k
  have hle := encR_len r
  have ll1 : ∃ n : Int, ∀ k : AV → Prop, qLenL v k = k (.int .i64 n) := by
    rcases h1.row with ⟨_, rfl⟩ | ⟨_, j, rfl, _⟩
    · exact ⟨_, fun k => rfl⟩
    · exact ⟨_, fun k => rfl⟩
  have ll2 : ∃ n : Int, ∀ k : AV → Prop, qLenL v' k = k (.int .i64 n) := by
    rcases b2 with ⟨_, rfl⟩ | ⟨_, j, rfl, _⟩
    · exact ⟨_, fun k => rfl⟩
    · exact ⟨_, fun k => rfl⟩
  obtain ⟨m1, ll1⟩ := ll1
  obtain ⟨m2, ll2⟩ := ll2
  have hg3 : (H2.set b (some (.obj 63 0 [.ptr b 0, v']))).get b = some (.obj 63 0 [.ptr b 0, v']) := by rw [get_set_i hlt, if_pos rfl]
  have l3 := fun k => ldO (R := Prop) hg3 1 _ rfl k
  obtain ⟨w, H', e, hq⟩ := ao_form (X := X) (D := OD2) (O := OF2) (S := PS) (al := [.ptr b 0, .int .i32 (r : Int)]) (H := H) e54 xf54 rfl rfl (Q := fun w H' => H' = H2.set b (some (.obj 63 0 [.ptr b 0, v']))) (by
    simp -implicitDefEqProofs only [c54, r54_0, r54_1, r54_2, r54_3, r54_4, opn_z, opn_s, sel_z, sel_s, qCd_eq, qIf_true, qIf_false, qFn_eq, qBl_eq, qO_some, qRes_val, qHp_some, qPick_true, qPick_false, qG_tt, qG_ff, qG_tf, qG_ft, cellsK_some, qLd_vptr, qLdA_vptr, qFa_ptr, qFa_vptr, qNc_ptr, qNc_vptr, qNc_fn, qNot_bool, qExt_tup, qCallV_fn, qLss_int, qLeq_int, qGtr_int, qGeq_int, qEql_int, qNeq_int, qAdd_int, qSub_int, qMul_int, qConvI_int, qLenL_sl, qLenL_hsl, qLenS_str, foldO, min2_int, max2_int, qSame_refl, Nat.zero_add, List.getElem?_cons_zero, List.getElem?_cons_succ, List.nil_append, List.cons_append, List.append_nil, one_bool, one_int, one_str, one_nilp, one_ptr, one_sl, one_hsl, one_map, one_fn, List.length_cons, List.length_nil, List.set_cons_zero, List.set_cons_succ, Nat.reduceLT, Nat.reduceAdd, qG_un, e75, l1, ll1, e79, q2, l3, ll2])
  subst hq
  refine ⟨_, w, _, v', e, ⟨hg3, .inr rfl, b2.keep fun j cs hj => ?_⟩, inferInstance, by rw [AH.nx_set]; omega, k1.trans fun i o hi hg hn => ?_⟩
  · rw [get_set_i hlt, if_neg (by rintro rfl; rw [g2] at hj; cases hj)]; exact hj
  · rw [get_set_i hlt, if_neg hi]; exact k2 i o hg hn
end T
set_option linter.unusedVariables false
set_option linter.unusedSimpArgs false
set_option maxRecDepth 10000
namespace T
open Go Go.Aes Go.Proofs

/-! ### the runes of a text -/
theorem dec_lib (b : UInt8) (r : Str) : Aes.decodeL (b :: r) = Lib.decodeL (b :: r) := by
  rw [← decode_spec ⟨(b :: r).toArray⟩ 0 b r (by simp)]
  rfl
theorem range_i {H : AH} [IsFn H] (s : Str) (k : AV → AH → Prop) : qRange (.str s) H k = k (.it H.nx) (H.push (.iter s 0)) := by
  show qNew (.iter s 0) .it H k = _
  rw [qNew_i]; rfl
theorem next_nil {H : AH} [IsFn H] {i p : Nat} (hg : H.get i = some (.iter [] p)) (k : AV → AH → Prop) : qNext (.it i) H k = k (.tup [.bool false]) H := by
  show qHp (nextAt i H) k = _
  have : nextAt i H = some (.tup [.bool false], H) := by
    unfold nextAt
    simp only [hg, okI_i (lt_i hg)]
    rfl
  rw [this, qHp_some]
theorem next_cons {H : AH} [IsFn H] {i p : Nat} {b : UInt8} {r : Str} (hg : H.get i = some (.iter (b :: r) p)) (k : AV → AH → Prop) : qNext (.it i) H k =
    k (.tup [.bool true, .int .i64 p, .int .i32 ((Lib.decodeL (b :: r)).1 : Int)]) (H.set i (some (.iter ((b :: r).drop (Lib.decodeL (b :: r)).2) (p + (Lib.decodeL (b :: r)).2)))) := by
  show qHp (nextAt i H) k = _
  have : nextAt i H = some (.tup [.bool true, .int .i64 p, .int .i32 ((Lib.decodeL (b :: r)).1 : Int)], H.set i (some (.iter ((b :: r).drop (Lib.decodeL (b :: r)).2) (p + (Lib.decodeL (b :: r)).2)))) := by
    unfold nextAt
    simp only [hg, okI_i (lt_i hg), dec_lib]
    rfl
  rw [this, qHp_some]
theorem dec_ascii (b : UInt8) (r : Str) (h : b.toNat < 128) : Lib.decodeL (b :: r) = (b.toNat, 1) := Lib.decodeL_ascii b r h

/-! ### IndexRune in letters below 128 -/
def Asc (p : Str) : Prop := ∀ c ∈ p, c.toNat < 128
theorem ib_hi {p : Str} (h : Asc p) {c : UInt8} (hc : 128 ≤ c.toNat) : Lib.indexByte p c = -1 := by
  have := ib_ge p c
  have hn : p.contains c = false := by
    cases hx : p.contains c with
    | false => rfl
    | true =>
      have := h c (by simpa using hx)
      omega
  rw [hn] at this
  simp at this
  omega
def ixr (p : Str) (r : Nat) : Int := if r < 128 then Lib.indexByte p (UInt8.ofNat r) else -1

theorem u8nat {r : Nat} (h : r < 256) : (UInt8.ofNat r).toNat = r := by simp; omega
theorem enc_conv (r : Nat) : (conv X 21 9 (.int .i32 (r : Int))) = some (.str (Utf8.encode (r : Int)).data.toList) := rfl
theorem enc_hi {r : Nat} (h : 128 ≤ r) (hv : okR r) : ∃ s c, (Utf8.encode (r : Int)).data.toList = s ++ [c] ∧ s.length ≤ 3 ∧ 128 ≤ c.toNat := by
  unfold okR at hv
  have hb : ∀ (n : Nat), 128 ≤ (UInt8.ofNat (128 + n % 64)).toNat := fun n => by rw [u8nat (by omega)]; omega
  have hval : Utf8.valid (r : Int) = true := by
    simp only [Utf8.valid, Bool.and_eq_true, Bool.or_eq_true, decide_eq_true_eq]
    omega
  unfold Utf8.encode
  rw [if_pos hval]
  simp only [Int.toNat_natCast]
  rw [if_neg (by omega)]
  split
  · exact ⟨[_], _, rfl, by simp, hb _⟩
  · split
    · exact ⟨[_, _], _, rfl, by simp, hb _⟩
    · exact ⟨[_, _, _], _, rfl, by simp, hb _⟩

theorem qIx_at (s : Str) (i : Nat) (c : UInt8) (h : s[i]? = some c) (k : AV → Prop) : qIx (.str s) (.int .i64 (i : Int)) k = k (.int .u8 c.toNat) := qIx_str h .i64 k

instance (r : Nat) : Decidable (okR r) := by unfold okR; infer_instance
theorem ep76_lo (r : Nat) (h1 : (r : Int) < 55296) (H : AH) : EP 76 [.int .i32 (r : Int)] H = some (.val (.bool true) H) := by
  refine uo_form e76 xf76 rfl rfl rfl rfl ?_ H
  simp only [AV.kills, AV.kill]
  have c0 : (0 : Int) ≤ r := Int.natCast_nonneg r
  simp -implicitDefEqProofs only [c76, r76_0, r76_1, r76_2, opn_z, opn_s, sel_z, sel_s, qCd_eq, qIf_true, qIf_false, qFn_eq, qBl_eq, qO_some, qRes_val, qHp_some, qPick_true, qPick_false, qG_tt, qG_ff, qG_tf, qG_ft, cellsK_some, qLd_ptr, qLd_vptr, qLdA_ptr, qLdA_vptr, qFa_ptr, qFa_vptr, qNc_ptr, qNc_vptr, qNc_fn, qNot_bool, qExt_tup, qCallV_fn, qLss_int, qLeq_int, qGtr_int, qGeq_int, qEql_int, qNeq_int, qAdd_int, qSub_int, qMul_int, qConvI_int, qLenL_sl, qLenL_hsl, qLenS_str, foldO, min2_int, max2_int, qSame_refl, Nat.zero_add, List.getElem?_cons_zero, List.getElem?_cons_succ, List.nil_append, List.cons_append, List.append_nil, one_bool, one_int, one_str, one_nilp, one_ptr, one_sl, one_hsl, one_map, one_fn, List.length_cons, List.length_nil, List.set_cons_zero, List.set_cons_succ, Nat.reduceLT, Nat.reduceAdd, qG_un, AV.kill, AV.kills, Tk.kill, c0, h1, decide_true]
theorem ep76_hi (r : Nat) (h1 : ¬ (r : Int) < 55296) (h2 : (57343 : Int) < r) (h3 : (r : Int) ≤ 1114111) (H : AH) : EP 76 [.int .i32 (r : Int)] H = some (.val (.bool true) H) := by
  refine uo_form e76 xf76 rfl rfl rfl rfl ?_ H
  simp only [AV.kills, AV.kill]
  have c0 : (0 : Int) ≤ r := Int.natCast_nonneg r
  simp -implicitDefEqProofs only [c76, r76_0, r76_1, r76_3, r76_4, opn_z, opn_s, sel_z, sel_s, qCd_eq, qIf_true, qIf_false, qFn_eq, qBl_eq, qO_some, qRes_val, qHp_some, qPick_true, qPick_false, qG_tt, qG_ff, qG_tf, qG_ft, cellsK_some, qLd_ptr, qLd_vptr, qLdA_ptr, qLdA_vptr, qFa_ptr, qFa_vptr, qNc_ptr, qNc_vptr, qNc_fn, qNot_bool, qExt_tup, qCallV_fn, qLss_int, qLeq_int, qGtr_int, qGeq_int, qEql_int, qNeq_int, qAdd_int, qSub_int, qMul_int, qConvI_int, qLenL_sl, qLenL_hsl, qLenS_str, foldO, min2_int, max2_int, qSame_refl, Nat.zero_add, List.getElem?_cons_zero, List.getElem?_cons_succ, List.nil_append, List.cons_append, List.append_nil, one_bool, one_int, one_str, one_nilp, one_ptr, one_sl, one_hsl, one_map, one_fn, List.length_cons, List.length_nil, List.set_cons_zero, List.set_cons_succ, Nat.reduceLT, Nat.reduceAdd, qG_un, AV.kill, AV.kills, Tk.kill, c0, h1, h2, h3, decide_true, decide_false]
theorem ep76_no (r : Nat) (h1 : ¬ (r : Int) < 55296) (h2 : ¬ (57343 : Int) < r) (H : AH) : EP 76 [.int .i32 (r : Int)] H = some (.val (.bool false) H) := by
  refine uo_form e76 xf76 rfl rfl rfl rfl ?_ H
  simp only [AV.kills, AV.kill]
  have c0 : (0 : Int) ≤ r := Int.natCast_nonneg r
  simp -implicitDefEqProofs only [c76, r76_0, r76_1, r76_3, r76_5, opn_z, opn_s, sel_z, sel_s, qCd_eq, qIf_true, qIf_false, qFn_eq, qBl_eq, qO_some, qRes_val, qHp_some, qPick_true, qPick_false, qG_tt, qG_ff, qG_tf, qG_ft, cellsK_some, qLd_ptr, qLd_vptr, qLdA_ptr, qLdA_vptr, qFa_ptr, qFa_vptr, qNc_ptr, qNc_vptr, qNc_fn, qNot_bool, qExt_tup, qCallV_fn, qLss_int, qLeq_int, qGtr_int, qGeq_int, qEql_int, qNeq_int, qAdd_int, qSub_int, qMul_int, qConvI_int, qLenL_sl, qLenL_hsl, qLenS_str, foldO, min2_int, max2_int, qSame_refl, Nat.zero_add, List.getElem?_cons_zero, List.getElem?_cons_succ, List.nil_append, List.cons_append, List.append_nil, one_bool, one_int, one_str, one_nilp, one_ptr, one_sl, one_hsl, one_map, one_fn, List.length_cons, List.length_nil, List.set_cons_zero, List.set_cons_succ, Nat.reduceLT, Nat.reduceAdd, qG_un, AV.kill, AV.kills, Tk.kill, c0, h1, h2, decide_true, decide_false]
theorem ep76_big (r : Nat) (h1 : ¬ (r : Int) < 55296) (h2 : (57343 : Int) < r) (h3 : ¬ (r : Int) ≤ 1114111) (H : AH) : EP 76 [.int .i32 (r : Int)] H = some (.val (.bool false) H) := by
  refine uo_form e76 xf76 rfl rfl rfl rfl ?_ H
  simp only [AV.kills, AV.kill]
  have c0 : (0 : Int) ≤ r := Int.natCast_nonneg r
  simp -implicitDefEqProofs only [c76, r76_0, r76_1, r76_3, r76_5, opn_z, opn_s, sel_z, sel_s, qCd_eq, qIf_true, qIf_false, qFn_eq, qBl_eq, qO_some, qRes_val, qHp_some, qPick_true, qPick_false, qG_tt, qG_ff, qG_tf, qG_ft, cellsK_some, qLd_ptr, qLd_vptr, qLdA_ptr, qLdA_vptr, qFa_ptr, qFa_vptr, qNc_ptr, qNc_vptr, qNc_fn, qNot_bool, qExt_tup, qCallV_fn, qLss_int, qLeq_int, qGtr_int, qGeq_int, qEql_int, qNeq_int, qAdd_int, qSub_int, qMul_int, qConvI_int, qLenL_sl, qLenL_hsl, qLenS_str, foldO, min2_int, max2_int, qSame_refl, Nat.zero_add, List.getElem?_cons_zero, List.getElem?_cons_succ, List.nil_append, List.cons_append, List.append_nil, one_bool, one_int, one_str, one_nilp, one_ptr, one_sl, one_hsl, one_map, one_fn, List.length_cons, List.length_nil, List.set_cons_zero, List.set_cons_succ, Nat.reduceLT, Nat.reduceAdd, qG_un, AV.kill, AV.kills, Tk.kill, c0, h1, h2, h3, decide_true, decide_false]
theorem ep76 (r : Nat) (H : AH) : EP 76 [.int .i32 (r : Int)] H = some (.val (.bool (decide (okR r))) H) := by
  by_cases h1 : (r : Int) < 55296
  · rw [ep76_lo r h1, show decide (okR r) = true from decide_eq_true (.inl (by omega))]
  · by_cases h2 : (57343 : Int) < r
    · by_cases h3 : (r : Int) ≤ 1114111
      · rw [ep76_hi r h1 h2 h3, show decide (okR r) = true from decide_eq_true (.inr (by omega))]
      · rw [ep76_big r h1 h2 h3, show decide (okR r) = false from decide_eq_false (by unfold okR; omega)]
    · rw [ep76_no r h1 h2, show decide (okR r) = false from decide_eq_false (by unfold okR; omega)]

set_option maxHeartbeats 1000000 in
theorem ep52 (p : Str) (hp : Asc p) (hl : p.length < 1000) (r : Nat) (H : AH) : EP 52 [.str p, .int .i32 (r : Int)] H = some (.val (.int .i64 (ixr p r)) H) := by
  refine uo_form e52 xf52 rfl rfl rfl rfl ?_ H
  simp only [AV.kills, AV.kill]
  have c0 : (0 : Int) ≤ r := by omega
  by_cases h1 : r < 128
  · have c1 : (r : Int) < 128 := by omega
    have wb : IntKind.u8.wrap (r : Int) = ((UInt8.ofNat r).toNat : Int) := by rw [wrap_u8, u8nat (by omega)]; omega
    have e := fun H => ep43 p (UInt8.ofNat r) H
    simp -implicitDefEqProofs only [c52, r52_0, r52_34, r52_35, opn_z, opn_s, sel_z, sel_s, qCd_eq, qIf_true, qIf_false, qFn_eq, qBl_eq, qO_some, qRes_val, qHp_some, qPick_true, qPick_false, qG_tt, qG_ff, qG_tf, qG_ft, cellsK_some, qLd_ptr, qLd_vptr, qLdA_ptr, qLdA_vptr, qFa_ptr, qFa_vptr, qNc_ptr, qNc_vptr, qNc_fn, qNot_bool, qExt_tup, qCallV_fn, qLss_int, qLeq_int, qGtr_int, qGeq_int, qEql_int, qNeq_int, qAdd_int, qSub_int, qMul_int, qConvI_int, qLenL_sl, qLenL_hsl, qLenS_str, foldO, min2_int, max2_int, qSame_refl, Nat.zero_add, List.getElem?_cons_zero, List.getElem?_cons_succ, List.nil_append, List.cons_append, List.append_nil, one_bool, one_int, one_str, one_nilp, one_ptr, one_sl, one_hsl, one_map, one_fn, List.length_cons, List.length_nil, List.set_cons_zero, List.set_cons_succ, Nat.reduceLT, Nat.reduceAdd, qG_un, AV.kill, AV.kills, Tk.kill, c0, c1, decide_true, wb, e, ixr, if_pos h1]
  have c1 : ¬ (r : Int) < 128 := by omega
  have hres : ixr p r = -1 := if_neg h1
  rw [hres]
  by_cases h2 : r = 65533
  · subst h2
    have c2 : (((65533 : Nat) : Int) == 65533) = true := rfl
    have c2' : (((65533 : Nat) : Int) < 128) = False := by simp
    simp -implicitDefEqProofs only [c52, r52_0, r52_34, r52_36, r52_37, opn_z, opn_s, sel_z, sel_s, qCd_eq, qIf_true, qIf_false, qFn_eq, qBl_eq, qO_some, qRes_val, qHp_some, qPick_true, qPick_false, qG_tt, qG_ff, qG_tf, qG_ft, cellsK_some, qLd_ptr, qLd_vptr, qLdA_ptr, qLdA_vptr, qFa_ptr, qFa_vptr, qNc_ptr, qNc_vptr, qNc_fn, qNot_bool, qExt_tup, qCallV_fn, qLss_int, qLeq_int, qGtr_int, qGeq_int, qEql_int, qNeq_int, qAdd_int, qSub_int, qMul_int, qConvI_int, qLenL_sl, qLenL_hsl, qLenS_str, foldO, min2_int, max2_int, qSame_refl, Nat.zero_add, List.getElem?_cons_zero, List.getElem?_cons_succ, List.nil_append, List.cons_append, List.append_nil, one_bool, one_int, one_str, one_nilp, one_ptr, one_sl, one_hsl, one_map, one_fn, List.length_cons, List.length_nil, List.set_cons_zero, List.set_cons_succ, Nat.reduceLT, Nat.reduceAdd, qG_un, AV.kill, AV.kills, Tk.kill, c0, c1, c2, decide_true, decide_false, range_i]
    refine loop_inv (fun m fr H' => ∃ (rest : Str) (pos : Nat) (x0 x1 x4 x5 x6 x7 x8 x9 x10 x11 x12 x13 x14 x15 x16 x26 x33 x43 x51 x64 x98 x108 x124 x139 x143 x156 x160 x171 x176 x177 x181 x183 : AV), m = rest.length ∧ (∀ c ∈ rest, c.toNat < 128) ∧ fr = [x0, x1, x4, x5, x6, x7, x8, x9, x10, x11, x12, x13, x14, x15, x16, x26, x33, x43, x51, x64, x98, x108, x124, x139, x143, x156, x160, x171, .it H0.nx, x176, x177, x181, x183] ∧ IsFn H' ∧ H'.get H0.nx = some (.iter rest pos)) ?_ (m := p.length) ?_
    · rintro m fr H' k ⟨rest, pos, x0, x1, x4, x5, x6, x7, x8, x9, x10, x11, x12, x13, x14, x15, x16, x26, x33, x43, x51, x64, x98, x108, x124, x139, x143, x156, x160, x171, x176, x177, x181, x183, rfl, ha, rfl, hf, hg⟩ hk
      cases rest with
      | nil =>
        have nx := fun k => next_nil hg k
        simp -implicitDefEqProofs only [l52_8, r52_38, r52_42, opn_z, opn_s, sel_z, sel_s, qCd_eq, qIf_true, qIf_false, qFn_eq, qBl_eq, qO_some, qRes_val, qHp_some, qPick_true, qPick_false, qG_tt, qG_ff, qG_tf, qG_ft, cellsK_some, qLd_ptr, qLd_vptr, qLdA_ptr, qLdA_vptr, qFa_ptr, qFa_vptr, qNc_ptr, qNc_vptr, qNc_fn, qNot_bool, qExt_tup, qCallV_fn, qLss_int, qLeq_int, qGtr_int, qGeq_int, qEql_int, qNeq_int, qAdd_int, qSub_int, qMul_int, qConvI_int, qLenL_sl, qLenL_hsl, qLenS_str, foldO, min2_int, max2_int, qSame_refl, Nat.zero_add, List.getElem?_cons_zero, List.getElem?_cons_succ, List.nil_append, List.cons_append, List.append_nil, one_bool, one_int, one_str, one_nilp, one_ptr, one_sl, one_hsl, one_map, one_fn, List.length_cons, List.length_nil, List.set_cons_zero, List.set_cons_succ, Nat.reduceLT, Nat.reduceAdd, qG_un, AV.kill, AV.kills, Tk.kill, nx]
      | cons b rest =>
        have nx := fun k => next_cons hg k
        have hb := ha b (by simp)
        rw [dec_ascii b rest hb] at nx
        have cb : (((b.toNat : Nat) : Int) == 65533) = false := by simp; omega
        simp -implicitDefEqProofs only [l52_8, r52_38, r52_39, r52_40, opn_z, opn_s, sel_z, sel_s, qCd_eq, qIf_true, qIf_false, qFn_eq, qBl_eq, qO_some, qRes_val, qHp_some, qPick_true, qPick_false, qG_tt, qG_ff, qG_tf, qG_ft, cellsK_some, qLd_ptr, qLd_vptr, qLdA_ptr, qLdA_vptr, qFa_ptr, qFa_vptr, qNc_ptr, qNc_vptr, qNc_fn, qNot_bool, qExt_tup, qCallV_fn, qLss_int, qLeq_int, qGtr_int, qGeq_int, qEql_int, qNeq_int, qAdd_int, qSub_int, qMul_int, qConvI_int, qLenL_sl, qLenL_hsl, qLenS_str, foldO, min2_int, max2_int, qSame_refl, Nat.zero_add, List.getElem?_cons_zero, List.getElem?_cons_succ, List.nil_append, List.cons_append, List.append_nil, one_bool, one_int, one_str, one_nilp, one_ptr, one_sl, one_hsl, one_map, one_fn, List.length_cons, List.length_nil, List.set_cons_zero, List.set_cons_succ, Nat.reduceLT, Nat.reduceAdd, qG_un, AV.kill, AV.kills, Tk.kill, nx, cb]
        refine hk rest.length _ _ (by simp) ⟨rest, pos + 1, _, _, _, _, _, _, _, _, _, _, _, _, _, _, _, _, _, _, _, _, _, _, _, _, _, _, _, _, _, _, _, _, rfl, fun c hc => ha c (by simp [hc]), rfl, inferInstance, ?_⟩
        rw [get_set_i (lt_i hg), if_pos rfl]
        rfl
    · exact ⟨p, 0, _, _, _, _, _, _, _, _, _, _, _, _, _, _, _, _, _, _, _, _, _, _, _, _, _, _, _, _, _, _, _, _, rfl, hp, rfl, inferInstance, get_push_at _⟩
  have c2 : (((r : Nat) : Int) == 65533) = false := by simp; omega
  have v := fun H => ep76 r H
  by_cases h3 : okR r
  · have hv : decide (okR r) = true := by simp [h3]
    rw [hv] at v
    obtain ⟨s, c, he, hs3, hc⟩ := enc_hi (by omega) h3
    have ce := enc_conv r
    rw [he] at ce
    have w1 : IntKind.i64.wrap (((s ++ [c]).length : Int) - 1) = (s.length : Int) := by
      have : (((s ++ [c]).length : Nat) : Int) - 1 = (s.length : Int) := by simp
      rw [this]; exact i64_in' (by omega)
    have gl : (s ++ [c])[s.length]? = some c := by simp
    have qc := fun k => qIx_at (s ++ [c]) s.length c gl k
    rcases Nat.lt_or_ge s.length p.length with h4 | h4
    · have c4 : (s.length : Int) < (p.length : Int) := by omega
      have gp : p[s.length]? = some p[s.length] := List.getElem?_eq_getElem h4
      have qp := fun k => qIx_at p s.length _ gp k
      have hpp := hp _ (List.getElem_mem h4)
      have cn : (((p[s.length].toNat : Nat) : Int) == ((c.toNat : Nat) : Int)) = false := by simp; omega
      have w2 := wrap_up s.length (by omega)
      have sl := fun k => slcS_lo p (s.length + 1) (by omega) k
      have e := fun H => ep43 (p.drop (s.length + 1)) c H
      rw [ib_hi (fun d hd => hp d (List.mem_of_mem_drop hd)) hc] at e
      have ng : ((-1 : Int) < 0) = True := by simp
      simp -implicitDefEqProofs only [c52, r52_0, r52_34, r52_36, r52_43, r52_1, r52_2, r52_3, r52_4, opn_z, opn_s, sel_z, sel_s, qCd_eq, qIf_true, qIf_false, qFn_eq, qBl_eq, qO_some, qRes_val, qHp_some, qPick_true, qPick_false, qG_tt, qG_ff, qG_tf, qG_ft, cellsK_some, qLd_ptr, qLd_vptr, qLdA_ptr, qLdA_vptr, qFa_ptr, qFa_vptr, qNc_ptr, qNc_vptr, qNc_fn, qNot_bool, qExt_tup, qCallV_fn, qLss_int, qLeq_int, qGtr_int, qGeq_int, qEql_int, qNeq_int, qAdd_int, qSub_int, qMul_int, qConvI_int, qLenL_sl, qLenL_hsl, qLenS_str, foldO, min2_int, max2_int, qSame_refl, Nat.zero_add, List.getElem?_cons_zero, List.getElem?_cons_succ, List.nil_append, List.cons_append, List.append_nil, one_bool, one_int, one_str, one_nilp, one_ptr, one_sl, one_hsl, one_map, one_fn, List.length_cons, List.length_nil, List.set_cons_zero, List.set_cons_succ, Nat.reduceLT, Nat.reduceAdd, qG_un, AV.kill, AV.kills, Tk.kill, c0, c1, c2, decide_true, decide_false, v, Bool.not_true, ce, w1]
      refine loop_inv (fun m fr H' => ∃ x1 x4 x5 x6 x11 x12 x13 x14 x15 x16 x26 x33 x43 x51 x64 x98 x108 x124 x139 x143 x156 x160 x171 x175 x176 x177 x181 x183 : AV, fr = [.str p, x1, x4, x5, x6, .str (s ++ [c]), .int .i64 (s.length : Int), .int .i64 (s.length : Int), .int .i64 0, x11, x12, x13, x14, x15, x16, x26, x33, x43, x51, x64, x98, x108, x124, x139, x143, x156, x160, x171, x175, x176, x177, x181, x183]) ?_ (m := 0) ⟨_, _, _, _, _, _, _, _, _, _, _, _, _, _, _, _, _, _, _, _, _, _, _, _, _, _, _, _, rfl⟩
      rintro m fr H' k ⟨x1, x4, x5, x6, x11, x12, x13, x14, x15, x16, x26, x33, x43, x51, x64, x98, x108, x124, x139, x143, x156, x160, x171, x175, x176, x177, x181, x183, rfl⟩ _
      simp -implicitDefEqProofs only [l52_33, r52_5, r52_6, r52_7, r52_8, r52_9, opn_z, opn_s, sel_z, sel_s, qCd_eq, qIf_true, qIf_false, qFn_eq, qBl_eq, qO_some, qRes_val, qHp_some, qPick_true, qPick_false, qG_tt, qG_ff, qG_tf, qG_ft, cellsK_some, qLd_ptr, qLd_vptr, qLdA_ptr, qLdA_vptr, qFa_ptr, qFa_vptr, qNc_ptr, qNc_vptr, qNc_fn, qNot_bool, qExt_tup, qCallV_fn, qLss_int, qLeq_int, qGtr_int, qGeq_int, qEql_int, qNeq_int, qAdd_int, qSub_int, qMul_int, qConvI_int, qLenL_sl, qLenL_hsl, qLenS_str, foldO, min2_int, max2_int, qSame_refl, Nat.zero_add, List.getElem?_cons_zero, List.getElem?_cons_succ, List.nil_append, List.cons_append, List.append_nil, one_bool, one_int, one_str, one_nilp, one_ptr, one_sl, one_hsl, one_map, one_fn, List.length_cons, List.length_nil, List.set_cons_zero, List.set_cons_succ, Nat.reduceLT, Nat.reduceAdd, qG_un, AV.kill, AV.kills, Tk.kill, c4, decide_true, qp, qc, cn, Bool.not_false, w2, sl, e, ng]
    · have c4 : ¬ (s.length : Int) < (p.length : Int) := by omega
      simp -implicitDefEqProofs only [c52, r52_0, r52_34, r52_36, r52_43, r52_1, r52_2, r52_3, r52_4, opn_z, opn_s, sel_z, sel_s, qCd_eq, qIf_true, qIf_false, qFn_eq, qBl_eq, qO_some, qRes_val, qHp_some, qPick_true, qPick_false, qG_tt, qG_ff, qG_tf, qG_ft, cellsK_some, qLd_ptr, qLd_vptr, qLdA_ptr, qLdA_vptr, qFa_ptr, qFa_vptr, qNc_ptr, qNc_vptr, qNc_fn, qNot_bool, qExt_tup, qCallV_fn, qLss_int, qLeq_int, qGtr_int, qGeq_int, qEql_int, qNeq_int, qAdd_int, qSub_int, qMul_int, qConvI_int, qLenL_sl, qLenL_hsl, qLenS_str, foldO, min2_int, max2_int, qSame_refl, Nat.zero_add, List.getElem?_cons_zero, List.getElem?_cons_succ, List.nil_append, List.cons_append, List.append_nil, one_bool, one_int, one_str, one_nilp, one_ptr, one_sl, one_hsl, one_map, one_fn, List.length_cons, List.length_nil, List.set_cons_zero, List.set_cons_succ, Nat.reduceLT, Nat.reduceAdd, qG_un, AV.kill, AV.kills, Tk.kill, c0, c1, c2, decide_true, decide_false, v, Bool.not_true, ce, w1]
      refine loop_inv (fun m fr H' => ∃ x1 x4 x5 x6 x11 x12 x13 x14 x15 x16 x26 x33 x43 x51 x64 x98 x108 x124 x139 x143 x156 x160 x171 x175 x176 x177 x181 x183 : AV, fr = [.str p, x1, x4, x5, x6, .str (s ++ [c]), .int .i64 (s.length : Int), .int .i64 (s.length : Int), .int .i64 0, x11, x12, x13, x14, x15, x16, x26, x33, x43, x51, x64, x98, x108, x124, x139, x143, x156, x160, x171, x175, x176, x177, x181, x183]) ?_ (m := 0) ⟨_, _, _, _, _, _, _, _, _, _, _, _, _, _, _, _, _, _, _, _, _, _, _, _, _, _, _, _, rfl⟩
      rintro m fr H' k ⟨x1, x4, x5, x6, x11, x12, x13, x14, x15, x16, x26, x33, x43, x51, x64, x98, x108, x124, x139, x143, x156, x160, x171, x175, x176, x177, x181, x183, rfl⟩ _
      simp -implicitDefEqProofs only [l52_33, r52_5, r52_19, opn_z, opn_s, sel_z, sel_s, qCd_eq, qIf_true, qIf_false, qFn_eq, qBl_eq, qO_some, qRes_val, qHp_some, qPick_true, qPick_false, qG_tt, qG_ff, qG_tf, qG_ft, cellsK_some, qLd_ptr, qLd_vptr, qLdA_ptr, qLdA_vptr, qFa_ptr, qFa_vptr, qNc_ptr, qNc_vptr, qNc_fn, qNot_bool, qExt_tup, qCallV_fn, qLss_int, qLeq_int, qGtr_int, qGeq_int, qEql_int, qNeq_int, qAdd_int, qSub_int, qMul_int, qConvI_int, qLenL_sl, qLenL_hsl, qLenS_str, foldO, min2_int, max2_int, qSame_refl, Nat.zero_add, List.getElem?_cons_zero, List.getElem?_cons_succ, List.nil_append, List.cons_append, List.append_nil, one_bool, one_int, one_str, one_nilp, one_ptr, one_sl, one_hsl, one_map, one_fn, List.length_cons, List.length_nil, List.set_cons_zero, List.set_cons_succ, Nat.reduceLT, Nat.reduceAdd, qG_un, AV.kill, AV.kills, Tk.kill, c4, decide_false]
  · have hv : decide (okR r) = false := by simp [h3]
    rw [hv] at v
    simp -implicitDefEqProofs only [c52, r52_0, r52_34, r52_36, r52_43, r52_44, opn_z, opn_s, sel_z, sel_s, qCd_eq, qIf_true, qIf_false, qFn_eq, qBl_eq, qO_some, qRes_val, qHp_some, qPick_true, qPick_false, qG_tt, qG_ff, qG_tf, qG_ft, cellsK_some, qLd_ptr, qLd_vptr, qLdA_ptr, qLdA_vptr, qFa_ptr, qFa_vptr, qNc_ptr, qNc_vptr, qNc_fn, qNot_bool, qExt_tup, qCallV_fn, qLss_int, qLeq_int, qGtr_int, qGeq_int, qEql_int, qNeq_int, qAdd_int, qSub_int, qMul_int, qConvI_int, qLenL_sl, qLenL_hsl, qLenS_str, foldO, min2_int, max2_int, qSame_refl, Nat.zero_add, List.getElem?_cons_zero, List.getElem?_cons_succ, List.nil_append, List.cons_append, List.append_nil, one_bool, one_int, one_str, one_nilp, one_ptr, one_sl, one_hsl, one_map, one_fn, List.length_cons, List.length_nil, List.set_cons_zero, List.set_cons_succ, Nat.reduceLT, Nat.reduceAdd, qG_un, AV.kill, AV.kills, Tk.kill, c0, c1, c2, decide_true, decide_false, v, Bool.not_false]
end T
set_option linter.unusedVariables false
set_option linter.unusedSimpArgs false
set_option maxRecDepth 10000
namespace T
open Go Go.Aes Go.Proofs

/-! ### Quote -/
def plain : Str := [34,92,47,8,12,10,13,9]
def escd : Str := [34,92,47,98,102,110,114,116]
def hexs : Str := [48,49,50,51,52,53,54,55,56,57,97,98,99,100,101,102]
def escB (c : UInt8) : Str :=
  if c ≠ 47 ∧ 0 ≤ Lib.indexByte plain c then [92, escd.getD (Lib.indexByte plain c).toNat 0]
  else if c.toNat < 32 ∨ c.toNat = 127 then [92, 117, 48, 48, hexs.getD (c.toNat / 16) 0, hexs.getD (c.toNat % 16) 0]
  else [c]
def quoteF (s : Str) : Str := if Lib.validD s then [34] ++ s.flatMap escB ++ [34] else []

theorem plain_asc : Asc plain := by
  intro c hc
  have : plain.all (fun c => decide (c.toNat < 128)) = true := by decide
  exact of_decide_eq_true (List.all_eq_true.1 this c hc)
theorem escB_hi {c : UInt8} (h : 128 ≤ c.toNat) : escB c = [c] := by
  unfold escB
  rw [ib_hi plain_asc h, if_neg (by omega), if_neg (by omega)]
theorem escB_len (c : UInt8) : (escB c).length ≤ 6 := by
  unfold escB
  split
  · simp
  · split <;> simp
theorem ib_plain (c : UInt8) : Lib.indexByte plain c < 8 := by
  have h := ib_ge plain c
  rcases Int.lt_or_le (Lib.indexByte plain c) 0 with h1 | h1
  · omega
  · obtain ⟨n, hn⟩ := Int.eq_ofNat_of_zero_le h1
    have := (Lib.indexByte_some hn).1
    have hlt := (List.getElem?_eq_some_iff.1 this).1
    have : plain.length = 8 := rfl
    omega

theorem dec_hi {b : UInt8} {r : Str} (h : 128 ≤ b.toNat) (hv : ¬ ((Lib.decodeL (b :: r)).1 = 65533 ∧ (Lib.decodeL (b :: r)).2 = 1)) : 128 ≤ (Lib.decodeL (b :: r)).1 ∧ okR (Lib.decodeL (b :: r)).1 := by
  rw [Lib.decodeL_N] at hv ⊢
  have hg : (b :: r).getD 0 0 = b := rfl
  rw [hg] at hv ⊢
  unfold okR
  rcases Lib.decodeN_shape (b :: r).length b.toNat ((b :: r).getD 1 0).toNat ((b :: r).getD 2 0).toNat ((b :: r).getD 3 0).toNat with ⟨c, e⟩ | ⟨c1, c2, c3, cv, e⟩ | ⟨c1, c2, c3, c4, cv, cs, e⟩ | ⟨c1, c2, c3, c4, c5, cv, cw, e⟩ | e
  · omega
  · rw [e]; simp only; omega
  · rw [e]; simp only; omega
  · rw [e]; simp only; omega
  · rw [e] at hv; exact absurd ⟨rfl, rfl⟩ hv
theorem encR_hi {c : Nat} (h : 128 ≤ c) (hv : okR c) : ∀ x ∈ encR c, 128 ≤ x.toNat := by
  intro x hx
  unfold okR at hv
  have hm : (AV.int .u8 x.toNat) ∈ bys (encR c) := List.mem_map.2 ⟨x, hx, rfl⟩
  have key : ∀ l, bys (encR c) = l → (AV.int .u8 x.toNat) ∈ l := fun l e => e ▸ hm
  by_cases h2 : c < 2048
  · have := key _ (enc2 h h2)
    simp at this
    omega
  · by_cases h3 : c < 65536
    · have := key _ (enc3 (by omega) h3 hv)
      simp at this
      omega
    · have := key _ (enc4 (by omega) (by omega))
      simp at this
      omega
theorem flat_hi {l : Str} (h : ∀ x ∈ l, 128 ≤ x.toNat) : l.flatMap escB = l := by
  induction l with
  | nil => rfl
  | cons a l ih =>
    rw [List.flatMap_cons, escB_hi (h a (by simp)), ih (fun x hx => h x (by simp [hx]))]
    rfl
theorem encR_asc (b : UInt8) (h : b.toNat < 128) : encR b.toNat = [b] := by
  have := enc1 h
  have hb := bytesK_bys (encR b.toNat)
  rw [this] at hb
  have h2 := bytesK_bys [b]
  have h3 : bys [b] = [.int .u8 ((b.toNat : Nat) : Int)] := rfl
  rw [h3] at h2
  rw [hb] at h2
  injection h2

theorem Bd.iter {H : AH} [IsFn H] {b i p p' : Nat} {s : Str} {a v : AV} {l l' : Str} (h : Bd H b s a v) (hg : H.get i = some (.iter l p)) : Bd (H.set i (some (.iter l' p'))) b s a v :=
  ⟨by rw [get_set_i (lt_i hg), if_neg (by rintro rfl; rw [h.get] at hg; cases hg)]; exact h.get, h.own, h.row.keep fun j cs hj => by
    rw [get_set_i (lt_i hg), if_neg (by rintro rfl; rw [hg] at hj; cases hj)]; exact hj⟩

/-- one write after the other -/
theorem Wrote.go {g : Nat} {al : List AV} {b : Nat} {s : Str} (h : Wrote g al b s) {H : AH} [IsFn H] {t : Str} {a v : AV} (hb : Bd H b t a v) (hl : t.length + s.length < 100000000000) {i p : Nat} {l : Str} (hg : H.get i = some (.iter l p)) (hi : i ≠ b) :
    ∃ H' w a' v', EP g al H = some (.val w H') ∧ Bd H' b (t ++ s) a' v' ∧ IsFn H' ∧ H'.get i = some (.iter l p) := by
  obtain ⟨H', w, a', v', e, h1, h2, h3, h4⟩ := h H t a v hb hl
  exact ⟨H', w, a', v', e, h1, h2, h4 i _ hi hg (fun k cs e => by cases e)⟩

theorem hex_at (n : Nat) (h : n < 16) (kd : IntKind) (k : AV → Prop) : qIx (.str [48,49,50,51,52,53,54,55,56,57,97,98,99,100,101,102]) (.int kd (n : Int)) k = k (.int .u8 (hexs.getD n 0).toNat) := by
  have hh : n < hexs.length := h
  refine qIx_str ?_ kd k
  show hexs[n]? = some (hexs.getD n 0)
  simp [List.getD, hh]
theorem esc_at (n : Nat) (h : n < 8) (k : AV → Prop) : qIx (.str [34,92,47,98,102,110,114,116]) (.int .i64 (n : Int)) k = k (.int .u8 (escd.getD n 0).toNat) := by
  have hh : n < escd.length := h
  refine qIx_str ?_ .i64 k
  show escd[n]? = some (escd.getD n 0)
  simp [List.getD, hh]
theorem and15 : ∀ x : Fin 128, bits .and .i32 (x.val : Int) 15 = ((x.val % 16 : Nat) : Int) := by decide +kernel

set_option maxHeartbeats 1000000 in
theorem quote_walk (s : Str) (hl : s.length < 1000000000) (hv : Lib.validD s = true) : c29 EP [.str s] H0 (fun v _ => v.kill = .str (quoteF s)) := by
  have e30 := fun H => ep30 s (by omega) H
  rw [hv] at e30
  simp -implicitDefEqProofs only [c29, r29_0, r29_1, opn_z, opn_s, sel_z, sel_s, qCd_eq, qIf_true, qIf_false, qFn_eq, qBl_eq, qO_some, qRes_val, qHp_some, qPick_true, qPick_false, qG_tt, qG_ff, qG_tf, qG_ft, cellsK_some, qLd_ptr, qLd_vptr, qLdA_ptr, qLdA_vptr, qFa_ptr, qFa_vptr, qNc_ptr, qNc_vptr, qNc_fn, qNot_bool, qExt_tup, qCallV_fn, qLss_int, qLeq_int, qGtr_int, qGeq_int, qEql_int, qNeq_int, qAdd_int, qSub_int, qMul_int, qConvI_int, qLenL_sl, qLenL_hsl, qLenS_str, foldO, min2_int, max2_int, qSame_refl, Nat.zero_add, List.getElem?_cons_zero, List.getElem?_cons_succ, List.nil_append, List.cons_append, List.append_nil, one_bool, one_int, one_str, one_nilp, one_ptr, one_sl, one_hsl, one_map, one_fn, List.length_cons, List.length_nil, List.set_cons_zero, List.set_cons_succ, Nat.reduceLT, Nat.reduceAdd, qG_un, e30, Bool.not_true]
  have nb : ∀ k : AV → AH → Prop, qNew (.obj 63 0 z63) .ptr H0 k = k (.ptr H0.nx 0) (H0.push (.obj 63 0 [.nilp, .sl [] .nil])) := fun k => by rw [qNew_i]; rfl
  have hb0 : Bd (H0.push (.obj 63 0 [.nilp, .sl [] .nil])) H0.nx [] .nilp (.sl [] .nil) := ⟨get_push_at _, .inl rfl, .inl ⟨rfl, rfl⟩⟩
  have hif : IsFn (H0.push (.obj 63 0 [.nilp, .sl [] .nil])) := inferInstance
  simp -implicitDefEqProofs only [r29_3, opn_z, opn_s, sel_z, sel_s, qCd_eq, qIf_true, qIf_false, qFn_eq, qBl_eq, qO_some, qRes_val, qHp_some, qPick_true, qPick_false, qG_tt, qG_ff, qG_tf, qG_ft, cellsK_some, qLd_ptr, qLd_vptr, qLdA_ptr, qLdA_vptr, qFa_ptr, qFa_vptr, qNc_ptr, qNc_vptr, qNc_fn, qNot_bool, qExt_tup, qCallV_fn, qLss_int, qLeq_int, qGtr_int, qGeq_int, qEql_int, qNeq_int, qAdd_int, qSub_int, qMul_int, qConvI_int, qLenL_sl, qLenL_hsl, qLenS_str, foldO, min2_int, max2_int, qSame_refl, Nat.zero_add, List.getElem?_cons_zero, List.getElem?_cons_succ, List.nil_append, List.cons_append, List.append_nil, one_bool, one_int, one_str, one_nilp, one_ptr, one_sl, one_hsl, one_map, one_fn, List.length_cons, List.length_nil, List.set_cons_zero, List.set_cons_succ, Nat.reduceLT, Nat.reduceAdd, qG_un, nb]
  generalize H0.nx = b at *
  generalize H0.push (.obj 63 0 [.nilp, .sl [] .nil]) = H1 at *
  obtain ⟨H2, w, a2, v2, ew, hb2, hf2, hn2, _⟩ := wr51 b 34 H1 [] _ _ hb0 (by simp)
  have ew' : EP 51 [.ptr b 0, .int .u8 34] H1 = some (.val w H2) := ew
  have rg := fun k => range_i (H := H2) s k
  have hgi := get_push_at (H := H2) (.iter s 0)
  have hb3 : Bd (H2.push (.iter s 0)) b [34] a2 v2 := ⟨by rw [get_push_lt _ (lt_i hb2.get)]; exact hb2.get, hb2.own, hb2.row.keep fun j cs hj => by rw [get_push_lt _ (lt_i hj)]; exact hj⟩
  have hne : H2.nx ≠ b := by have := lt_i hb2.get; omega
  have hif3 : IsFn (H2.push (.iter s 0)) := inferInstance
  simp -implicitDefEqProofs only [r29_4, r29_5, opn_z, opn_s, sel_z, sel_s, qCd_eq, qIf_true, qIf_false, qFn_eq, qBl_eq, qO_some, qRes_val, qHp_some, qPick_true, qPick_false, qG_tt, qG_ff, qG_tf, qG_ft, cellsK_some, qLd_ptr, qLd_vptr, qLdA_ptr, qLdA_vptr, qFa_ptr, qFa_vptr, qNc_ptr, qNc_vptr, qNc_fn, qNot_bool, qExt_tup, qCallV_fn, qLss_int, qLeq_int, qGtr_int, qGeq_int, qEql_int, qNeq_int, qAdd_int, qSub_int, qMul_int, qConvI_int, qLenL_sl, qLenL_hsl, qLenS_str, foldO, min2_int, max2_int, qSame_refl, Nat.zero_add, List.getElem?_cons_zero, List.getElem?_cons_succ, List.nil_append, List.cons_append, List.append_nil, one_bool, one_int, one_str, one_nilp, one_ptr, one_sl, one_hsl, one_map, one_fn, List.length_cons, List.length_nil, List.set_cons_zero, List.set_cons_succ, Nat.reduceLT, Nat.reduceAdd, qG_un, ew', rg]
  generalize H2.nx = i at *
  generalize H2.push (.iter s 0) = H3 at *
  refine loop_inv (fun m fr H' => ∃ (l t : Str) (p : Nat) (a v : AV) (x0 x2 x5 x6 x9 x13 x14 x20 x31 : AV), m = l.length ∧ fr = [x0, x2, .ptr b 0, x5, x6, x9, .it i, x13, x14, x20, x31] ∧ IsFn H' ∧ H'.get i = some (.iter l p) ∧ Bd H' b t a v ∧ Lib.validD l = true ∧
      t ++ l.flatMap escB = [34] ++ s.flatMap escB ∧ t.length + 6 * l.length ≤ 1 + 6 * s.length) ?_ (m := s.length) ?_
  · rintro m fr H' k ⟨l, t, p, a, v, x0, x2, x5, x6, x9, x13, x14, x20, x31, rfl, rfl, hf, hg, hb, hvl, heq, hln⟩ hk
    cases l with
    | nil =>
      have nx := fun k => next_nil hg k
      obtain ⟨H4, w4, a4, v4, ew4, hb4, hf4, hn4, _⟩ := wr51 b 34 H' t _ _ hb (by simp; omega)
      have ew4' : EP 51 [.ptr b 0, .int .u8 34] H' = some (.val w4 H4) := ew4
      obtain ⟨H5, e48, _, _, _⟩ := ep48 hb4 (by simp; omega)
      simp -implicitDefEqProofs only [l29_7, r29_6, r29_17, r29_18, opn_z, opn_s, sel_z, sel_s, qCd_eq, qIf_true, qIf_false, qFn_eq, qBl_eq, qO_some, qRes_val, qHp_some, qPick_true, qPick_false, qG_tt, qG_ff, qG_tf, qG_ft, cellsK_some, qLd_ptr, qLd_vptr, qLdA_ptr, qLdA_vptr, qFa_ptr, qFa_vptr, qNc_ptr, qNc_vptr, qNc_fn, qNot_bool, qExt_tup, qCallV_fn, qLss_int, qLeq_int, qGtr_int, qGeq_int, qEql_int, qNeq_int, qAdd_int, qSub_int, qMul_int, qConvI_int, qLenL_sl, qLenL_hsl, qLenS_str, foldO, min2_int, max2_int, qSame_refl, Nat.zero_add, List.getElem?_cons_zero, List.getElem?_cons_succ, List.nil_append, List.cons_append, List.append_nil, one_bool, one_int, one_str, one_nilp, one_ptr, one_sl, one_hsl, one_map, one_fn, List.length_cons, List.length_nil, List.set_cons_zero, List.set_cons_succ, Nat.reduceLT, Nat.reduceAdd, qG_un, AV.kill, AV.kills, Tk.kill, nx, ew4', e48]
      simp only [List.flatMap_nil, List.append_nil] at heq
      rw [heq]
      simp [quoteF, hv]
    | cons c l =>
      have nx := fun k => next_cons hg k
      have hlt := lt_i hg
      have hb' := hb.iter (l' := (c :: l).drop (Lib.decodeL (c :: l)).2) (p' := p + (Lib.decodeL (c :: l)).2) hg
      have hg' : (H'.set i (some (.iter ((c :: l).drop (Lib.decodeL (c :: l)).2) (p + (Lib.decodeL (c :: l)).2)))).get i = some (.iter ((c :: l).drop (Lib.decodeL (c :: l)).2) (p + (Lib.decodeL (c :: l)).2)) := by rw [get_set_i hlt, if_pos rfl]
      have hif' : IsFn (H'.set i (some (.iter ((c :: l).drop (Lib.decodeL (c :: l)).2) (p + (Lib.decodeL (c :: l)).2)))) := inferInstance
      generalize H'.set i (some (.iter ((c :: l).drop (Lib.decodeL (c :: l)).2) (p + (Lib.decodeL (c :: l)).2))) = H'' at *
      rcases Nat.lt_or_ge c.toNat 128 with hc | hc
      · rw [Lib.validD_cons c l hc] at hvl
        rw [dec_ascii c l hc] at nx hg'
        have hcc : UInt8.ofNat c.toNat = c := by simp
        have e52 := fun H => ep52 [34,92,47,8,12,10,13,9] plain_asc (by decide) c.toNat H
        have hix : ixr [34,92,47,8,12,10,13,9] c.toNat = Lib.indexByte plain c := by
          unfold ixr; rw [if_pos hc, hcc]; rfl
        rw [hix] at e52
        rw [List.flatMap_cons] at heq
        have hi7 := ib_plain c
        by_cases hA : c ≠ 47 ∧ 0 ≤ Lib.indexByte plain c
        · have hesc : escB c = [92, escd.getD (Lib.indexByte plain c).toNat 0] := by unfold escB; rw [if_pos hA]
          rw [hesc] at heq
          obtain ⟨n, hn⟩ := Int.eq_ofNat_of_zero_le hA.2
          rw [hn] at e52 heq
          have hn8 : n < 8 := by omega
          have c47 : (((c.toNat : Nat) : Int) == 47) = false := by
            have : c.toNat ≠ 47 := fun e => hA.1 (by rw [← hcc, e]; rfl)
            simp; omega
          have cge : ((n : Int) ≥ 0) := by omega
          obtain ⟨H4, w4, a4, v4, ew4, hb4, hf4, hg4⟩ := (wr51 b 92).go hb' (by simp at hln ⊢; omega) hg' hne
          have ew4' : EP 51 [.ptr b 0, .int .u8 92] H'' = some (.val w4 H4) := ew4
          obtain ⟨H5, w5, a5, v5, ew5, hb5, hf5, hg5⟩ := (wr51 b (escd.getD n 0)).go hb4 (by simp at hln ⊢; omega) hg4 hne
          have ea := fun k => esc_at n hn8 k
          simp -implicitDefEqProofs only [l29_7, r29_6, r29_7, r29_8, r29_10, r29_11, r29_12, opn_z, opn_s, sel_z, sel_s, qCd_eq, qIf_true, qIf_false, qFn_eq, qBl_eq, qO_some, qRes_val, qHp_some, qPick_true, qPick_false, qG_tt, qG_ff, qG_tf, qG_ft, cellsK_some, qLd_ptr, qLd_vptr, qLdA_ptr, qLdA_vptr, qFa_ptr, qFa_vptr, qNc_ptr, qNc_vptr, qNc_fn, qNot_bool, qExt_tup, qCallV_fn, qLss_int, qLeq_int, qGtr_int, qGeq_int, qEql_int, qNeq_int, qAdd_int, qSub_int, qMul_int, qConvI_int, qLenL_sl, qLenL_hsl, qLenS_str, foldO, min2_int, max2_int, qSame_refl, Nat.zero_add, List.getElem?_cons_zero, List.getElem?_cons_succ, List.nil_append, List.cons_append, List.append_nil, one_bool, one_int, one_str, one_nilp, one_ptr, one_sl, one_hsl, one_map, one_fn, List.length_cons, List.length_nil, List.set_cons_zero, List.set_cons_succ, Nat.reduceLT, Nat.reduceAdd, qG_un, AV.kill, AV.kills, Tk.kill, nx, e52, c47, Bool.not_false, cge, decide_true, ew4', ea, ew5]
          refine hk l.length _ _ (by simp) ⟨l, _, _, _, _, _, _, _, _, _, _, _, _, _, rfl, rfl, hf5, hg5, hb5, hvl, ?_, ?_⟩
          · simpa using heq
          · simp at hln ⊢; omega
        · have asIs : escB c = [c] → ∃ H4 w4 a4 v4, EP 54 [.ptr b 0, .int .i32 ((c.toNat : Nat) : Int)] H'' = some (.val w4 H4) ∧ Bd H4 b (t ++ [c]) a4 v4 ∧ IsFn H4 ∧ H4.get i = some (.iter l (p + 1)) := by
            intro _
            obtain ⟨H4, w4, a4, v4, e, h1, h2, h3, h4⟩ := wr54 b c.toNat (.inl (by omega)) H'' t _ _ hb' (by simp at hln ⊢; omega)
            rw [encR_asc c hc] at h1
            exact ⟨H4, w4, a4, v4, e, h1, h2, h4 i _ hne hg' (fun k cs e => by cases e)⟩
          by_cases h47 : c = 47
          · subst h47
            have hesc : escB 47 = [47] := by decide
            rw [hesc] at heq
            obtain ⟨H4, w4, a4, v4, e54, hb4, hf4, hg4⟩ := asIs hesc
            have c47 : ((((47 : UInt8).toNat : Nat) : Int) == 47) = true := by decide
            have c32 : ¬ ((((47 : UInt8).toNat : Nat) : Int) < 32) := by decide
            have c127 : ((((47 : UInt8).toNat : Nat) : Int) == 127) = false := by decide
            simp -implicitDefEqProofs only [l29_7, r29_6, r29_7, r29_8, r29_10, r29_13, r29_9, opn_z, opn_s, sel_z, sel_s, qCd_eq, qIf_true, qIf_false, qFn_eq, qBl_eq, qO_some, qRes_val, qHp_some, qPick_true, qPick_false, qG_tt, qG_ff, qG_tf, qG_ft, cellsK_some, qLd_ptr, qLd_vptr, qLdA_ptr, qLdA_vptr, qFa_ptr, qFa_vptr, qNc_ptr, qNc_vptr, qNc_fn, qNot_bool, qExt_tup, qCallV_fn, qLss_int, qLeq_int, qGtr_int, qGeq_int, qEql_int, qNeq_int, qAdd_int, qSub_int, qMul_int, qConvI_int, qLenL_sl, qLenL_hsl, qLenS_str, foldO, min2_int, max2_int, qSame_refl, Nat.zero_add, List.getElem?_cons_zero, List.getElem?_cons_succ, List.nil_append, List.cons_append, List.append_nil, one_bool, one_int, one_str, one_nilp, one_ptr, one_sl, one_hsl, one_map, one_fn, List.length_cons, List.length_nil, List.set_cons_zero, List.set_cons_succ, Nat.reduceLT, Nat.reduceAdd, qG_un, AV.kill, AV.kills, Tk.kill, nx, e52, c47, Bool.not_true, c32, decide_false, c127, e54]
            refine hk l.length _ _ (by simp) ⟨l, _, _, _, _, _, _, _, _, _, _, _, _, _, rfl, rfl, hf4, hg4, hb4, hvl, ?_, ?_⟩
            · simpa using heq
            · simp at hln ⊢; omega
          · have hat : ¬ 0 ≤ Lib.indexByte plain c := fun h => hA ⟨h47, h⟩
            have c47 : (((c.toNat : Nat) : Int) == 47) = false := by
              have : c.toNat ≠ 47 := fun e => h47 (by rw [← hcc, e]; rfl)
              simp; omega
            have cge : ¬ (Lib.indexByte plain c ≥ 0) := hat
            by_cases h32 : c.toNat < 32 ∨ c.toNat = 127
            · have hesc : escB c = [92, 117, 48, 48, hexs.getD (c.toNat / 16) 0, hexs.getD (c.toNat % 16) 0] := by unfold escB; rw [if_neg hA, if_pos h32]
              rw [hesc] at heq
              obtain ⟨H4, w4, a4, v4, ew4, hb4, hf4, hg4⟩ := (wr53 b [92, 117, 48, 48]).go hb' (by simp at hln ⊢; omega) hg' hne
              obtain ⟨H5, w5, a5, v5, ew5, hb5, hf5, hg5⟩ := (wr51 b (hexs.getD (c.toNat / 16) 0)).go hb4 (by simp at hln ⊢; omega) hg4 hne
              obtain ⟨H6, w6, a6, v6, ew6, hb6, hf6, hg6⟩ := (wr51 b (hexs.getD (c.toNat % 16) 0)).go hb5 (by simp at hln ⊢; omega) hg5 hne
              have s4 : binop X .shr 21 (.int .i32 ((c.toNat : Nat) : Int)) (.int .u64 4) = some (.int .i32 ((c.toNat / 16 : Nat) : Int)) := by
                have := shr_i32 ((c.toNat : Nat) : Int) 4 (by omega)
                rw [show (((c.toNat : Nat) : Int) / 2 ^ 4) = ((c.toNat / 16 : Nat) : Int) by omega] at this
                exact this
              have a15 : binop X .and 21 (.int .i32 ((c.toNat : Nat) : Int)) (.int .i32 15) = some (.int .i32 ((c.toNat % 16 : Nat) : Int)) := by
                have := and15 ⟨c.toNat, hc⟩
                simp only at this
                show some (AV.int .i32 (bits .and .i32 ((c.toNat : Nat) : Int) 15)) = _
                rw [this]
              have x1 := fun k => hex_at (c.toNat / 16) (by omega) .i32 k
              have x2 := fun k => hex_at (c.toNat % 16) (by omega) .i32 k
              rcases Nat.lt_or_ge c.toNat 32 with h | h
              · have c32 : ((((c.toNat : Nat) : Int)) < 32) := by omega
                simp -implicitDefEqProofs only [l29_7, r29_6, r29_7, r29_8, r29_10, r29_13, r29_14, r29_15, r29_16, opn_z, opn_s, sel_z, sel_s, qCd_eq, qIf_true, qIf_false, qFn_eq, qBl_eq, qO_some, qRes_val, qHp_some, qPick_true, qPick_false, qG_tt, qG_ff, qG_tf, qG_ft, cellsK_some, qLd_ptr, qLd_vptr, qLdA_ptr, qLdA_vptr, qFa_ptr, qFa_vptr, qNc_ptr, qNc_vptr, qNc_fn, qNot_bool, qExt_tup, qCallV_fn, qLss_int, qLeq_int, qGtr_int, qGeq_int, qEql_int, qNeq_int, qAdd_int, qSub_int, qMul_int, qConvI_int, qLenL_sl, qLenL_hsl, qLenS_str, foldO, min2_int, max2_int, qSame_refl, Nat.zero_add, List.getElem?_cons_zero, List.getElem?_cons_succ, List.nil_append, List.cons_append, List.append_nil, one_bool, one_int, one_str, one_nilp, one_ptr, one_sl, one_hsl, one_map, one_fn, List.length_cons, List.length_nil, List.set_cons_zero, List.set_cons_succ, Nat.reduceLT, Nat.reduceAdd, qG_un, AV.kill, AV.kills, Tk.kill, nx, e52, c47, Bool.not_false, cge, decide_false, c32, decide_true, ew4, s4, x1, ew5, a15, x2, ew6]
                refine hk l.length _ _ (by simp) ⟨l, _, _, _, _, _, _, _, _, _, _, _, _, _, rfl, rfl, hf6, hg6, hb6, hvl, ?_, ?_⟩
                · simpa using heq
                · simp at hln ⊢; omega
              · have c32 : ¬ ((((c.toNat : Nat) : Int)) < 32) := by omega
                have c127 : ((((c.toNat : Nat) : Int)) == 127) = true := by simp; omega
                simp -implicitDefEqProofs only [l29_7, r29_6, r29_7, r29_8, r29_10, r29_13, r29_14, r29_15, r29_16, opn_z, opn_s, sel_z, sel_s, qCd_eq, qIf_true, qIf_false, qFn_eq, qBl_eq, qO_some, qRes_val, qHp_some, qPick_true, qPick_false, qG_tt, qG_ff, qG_tf, qG_ft, cellsK_some, qLd_ptr, qLd_vptr, qLdA_ptr, qLdA_vptr, qFa_ptr, qFa_vptr, qNc_ptr, qNc_vptr, qNc_fn, qNot_bool, qExt_tup, qCallV_fn, qLss_int, qLeq_int, qGtr_int, qGeq_int, qEql_int, qNeq_int, qAdd_int, qSub_int, qMul_int, qConvI_int, qLenL_sl, qLenL_hsl, qLenS_str, foldO, min2_int, max2_int, qSame_refl, Nat.zero_add, List.getElem?_cons_zero, List.getElem?_cons_succ, List.nil_append, List.cons_append, List.append_nil, one_bool, one_int, one_str, one_nilp, one_ptr, one_sl, one_hsl, one_map, one_fn, List.length_cons, List.length_nil, List.set_cons_zero, List.set_cons_succ, Nat.reduceLT, Nat.reduceAdd, qG_un, AV.kill, AV.kills, Tk.kill, nx, e52, c47, Bool.not_false, cge, decide_false, c32, c127, ew4, s4, x1, ew5, a15, x2, ew6]
                refine hk l.length _ _ (by simp) ⟨l, _, _, _, _, _, _, _, _, _, _, _, _, _, rfl, rfl, hf6, hg6, hb6, hvl, ?_, ?_⟩
                · simpa using heq
                · simp at hln ⊢; omega
            · have hesc : escB c = [c] := by unfold escB; rw [if_neg hA, if_neg h32]
              rw [hesc] at heq
              obtain ⟨H4, w4, a4, v4, e54, hb4, hf4, hg4⟩ := asIs hesc
              have c32 : ¬ ((((c.toNat : Nat) : Int)) < 32) := by omega
              have c127 : ((((c.toNat : Nat) : Int)) == 127) = false := by simp; omega
              simp -implicitDefEqProofs only [l29_7, r29_6, r29_7, r29_8, r29_10, r29_13, r29_9, opn_z, opn_s, sel_z, sel_s, qCd_eq, qIf_true, qIf_false, qFn_eq, qBl_eq, qO_some, qRes_val, qHp_some, qPick_true, qPick_false, qG_tt, qG_ff, qG_tf, qG_ft, cellsK_some, qLd_ptr, qLd_vptr, qLdA_ptr, qLdA_vptr, qFa_ptr, qFa_vptr, qNc_ptr, qNc_vptr, qNc_fn, qNot_bool, qExt_tup, qCallV_fn, qLss_int, qLeq_int, qGtr_int, qGeq_int, qEql_int, qNeq_int, qAdd_int, qSub_int, qMul_int, qConvI_int, qLenL_sl, qLenL_hsl, qLenS_str, foldO, min2_int, max2_int, qSame_refl, Nat.zero_add, List.getElem?_cons_zero, List.getElem?_cons_succ, List.nil_append, List.cons_append, List.append_nil, one_bool, one_int, one_str, one_nilp, one_ptr, one_sl, one_hsl, one_map, one_fn, List.length_cons, List.length_nil, List.set_cons_zero, List.set_cons_succ, Nat.reduceLT, Nat.reduceAdd, qG_un, AV.kill, AV.kills, Tk.kill, nx, e52, c47, Bool.not_false, cge, c32, decide_false, c127, e54]
              refine hk l.length _ _ (by simp) ⟨l, _, _, _, _, _, _, _, _, _, _, _, _, _, rfl, rfl, hf4, hg4, hb4, hvl, ?_, ?_⟩
              · simpa using heq
              · simp at hln ⊢; omega
      · rw [Lib.validD_step _ (by simp)] at hvl
        have hnv : ¬ ((Lib.decodeL (c :: l)).1 = 65533 ∧ (Lib.decodeL (c :: l)).2 = 1) := fun h => by rw [if_pos h] at hvl; cases hvl
        rw [if_neg hnv] at hvl
        obtain ⟨hr, hok⟩ := dec_hi hc hnv
        have henc := Lib.encode_decode (c :: l) (by simp) hnv
        have hw1 := Lib.decodeL_width (c :: l)
        have hw2 := Lib.decodeL_le (c :: l) (by simp)
        have hx := encR_hi hr hok
        have henc' : encR (Lib.decodeL (c :: l)).1 = (c :: l).take (Lib.decodeL (c :: l)).2 := henc
        have hfl : (c :: l).flatMap escB = encR (Lib.decodeL (c :: l)).1 ++ ((c :: l).drop (Lib.decodeL (c :: l)).2).flatMap escB := by
          conv => lhs; rw [← List.take_append_drop (Lib.decodeL (c :: l)).2 (c :: l)]
          rw [List.flatMap_append, ← henc', flat_hi hx]
        rw [hfl] at heq
        have hlen : (encR (Lib.decodeL (c :: l)).1).length = (Lib.decodeL (c :: l)).2 := by
          rw [henc', List.length_take]; omega
        obtain ⟨H4, w4, a4, v4, e54, hb4, hf4, hn4, hk4⟩ := wr54 b (Lib.decodeL (c :: l)).1 hok H'' t _ _ hb' (by simp at hln ⊢; omega)
        have hg4 := hk4 i _ hne hg' (fun k cs e => by cases e)
        have e52 := fun H => ep52 [34,92,47,8,12,10,13,9] plain_asc (by decide) (Lib.decodeL (c :: l)).1 H
        have hix : ixr [34,92,47,8,12,10,13,9] (Lib.decodeL (c :: l)).1 = -1 := if_neg (by omega)
        rw [hix] at e52
        generalize Lib.decodeL (c :: l) = d at *
        obtain ⟨r, wd⟩ := d
        simp only at *
        have c47 : (((r : Nat) : Int) == 47) = false := by simp; omega
        have c127 : (((r : Nat) : Int) == 127) = false := by simp; omega
        have c32 : ¬ (((r : Nat) : Int) < 32) := by omega
        have cge : ¬ ((-1 : Int) ≥ 0) := by omega
        simp -implicitDefEqProofs only [l29_7, r29_6, r29_7, r29_8, r29_10, r29_13, r29_9, opn_z, opn_s, sel_z, sel_s, qCd_eq, qIf_true, qIf_false, qFn_eq, qBl_eq, qO_some, qRes_val, qHp_some, qPick_true, qPick_false, qG_tt, qG_ff, qG_tf, qG_ft, cellsK_some, qLd_ptr, qLd_vptr, qLdA_ptr, qLdA_vptr, qFa_ptr, qFa_vptr, qNc_ptr, qNc_vptr, qNc_fn, qNot_bool, qExt_tup, qCallV_fn, qLss_int, qLeq_int, qGtr_int, qGeq_int, qEql_int, qNeq_int, qAdd_int, qSub_int, qMul_int, qConvI_int, qLenL_sl, qLenL_hsl, qLenS_str, foldO, min2_int, max2_int, qSame_refl, Nat.zero_add, List.getElem?_cons_zero, List.getElem?_cons_succ, List.nil_append, List.cons_append, List.append_nil, one_bool, one_int, one_str, one_nilp, one_ptr, one_sl, one_hsl, one_map, one_fn, List.length_cons, List.length_nil, List.set_cons_zero, List.set_cons_succ, Nat.reduceLT, Nat.reduceAdd, qG_un, AV.kill, AV.kills, Tk.kill, nx, e52, c47, Bool.not_false, cge, c32, decide_false, c127, e54]
        refine hk ((c :: l).drop wd).length _ _ (by simp; omega) ⟨(c :: l).drop wd, _, _, _, _, _, _, _, _, _, _, _, _, _, rfl, rfl, hf4, hg4, hb4, hvl, ?_, ?_⟩
        · simpa using heq
        · simp only [List.length_cons] at hw2; simp at hln ⊢; omega
  · exact ⟨s, [34], 0, a2, v2, _, _, _, _, _, _, _, _, _, rfl, rfl, hif3, hgi, hb3, hv, rfl, by simp⟩
theorem ep29 (s : Str) (hl : s.length < 1000000000) (H : AH) : EP 29 [.str s] H = some (.val (.str (quoteF s)) H) := by
  refine uo_form e29 xf29 rfl rfl rfl rfl ?_ H
  simp only [AV.kills, AV.kill]
  cases hv : Lib.validD s with
  | true => exact quote_walk s hl hv
  | false =>
    have e30 := fun H => ep30 s (by omega) H
    rw [hv] at e30
    simp -implicitDefEqProofs only [c29, r29_0, r29_1, r29_2, opn_z, opn_s, sel_z, sel_s, qCd_eq, qIf_true, qIf_false, qFn_eq, qBl_eq, qO_some, qRes_val, qHp_some, qPick_true, qPick_false, qG_tt, qG_ff, qG_tf, qG_ft, cellsK_some, qLd_ptr, qLd_vptr, qLdA_ptr, qLdA_vptr, qFa_ptr, qFa_vptr, qNc_ptr, qNc_vptr, qNc_fn, qNot_bool, qExt_tup, qCallV_fn, qLss_int, qLeq_int, qGtr_int, qGeq_int, qEql_int, qNeq_int, qAdd_int, qSub_int, qMul_int, qConvI_int, qLenL_sl, qLenL_hsl, qLenS_str, foldO, min2_int, max2_int, qSame_refl, Nat.zero_add, List.getElem?_cons_zero, List.getElem?_cons_succ, List.nil_append, List.cons_append, List.append_nil, one_bool, one_int, one_str, one_nilp, one_ptr, one_sl, one_hsl, one_map, one_fn, List.length_cons, List.length_nil, List.set_cons_zero, List.set_cons_succ, Nat.reduceLT, Nat.reduceAdd, qG_un, AV.kill, AV.kills, Tk.kill, e30, Bool.not_false]
    simp [quoteF, hv]
end T
set_option linter.unusedVariables false
set_option linter.unusedSimpArgs false
set_option maxRecDepth 10000
namespace T
open Go Go.Aes Go.Proofs

/-! ### a value's text -/
def sNull : Str := [110,117,108,108]
mutual
def txt : Val → Str
  | .mk k s ns l => if k = 1 then sNull else if k = 5 then quoteF s else if k = 7 then [91] ++ txtK false true ns l ++ [93] else if k = 8 then [123] ++ txtK true true ns l ++ [125] else s
def txtK : Bool → Bool → List Str → List Val → Str
  | _, _, _, [] => []
  | ob, first, ns, v :: l => (bif first then [] else [44]) ++ (bif ob then quoteF (ns.headD []) ++ [58] else []) ++ txt v ++ txtK ob false ns.tail l
end
mutual
def okT : Val → Prop
  | .mk k s ns l => s.length < 1000000000 ∧ (∀ n ∈ ns, n.length < 1000000000) ∧ (k = 8 → ns.length = l.length) ∧ l.length < 1000000000 ∧ okTs l
def okTs : List Val → Prop
  | [] => True
  | v :: l => okT v ∧ okTs l
end
theorem okTs_mem : ∀ {l : List Val}, okTs l → ∀ v ∈ l, okT v
  | [], _, v, hv => by cases hv
  | a :: l, ⟨h1, h2⟩, v, hv => by
    rcases List.mem_cons.1 hv with rfl | hv
    · exact h1
    · exact okTs_mem h2 v hv

/-- a write to the builder, whatever the heap -/
def Put (g : Nat) (al : List AV) (b : Nat) (s : Str) : Prop := ∀ (H : AH) [IsFn H] (t : Str) (a v : AV), Bd H b t a v → t.length + s.length < 10000000000 →
  ∃ H' w a' v', EP g al H = some (.val w H') ∧ Bd H' b (t ++ s) a' v' ∧ IsFn H' ∧ Bk H H' b
theorem Wrote.put {g : Nat} {al : List AV} {b : Nat} {s : Str} (h : Wrote g al b s) : Put g al b s := fun H _ t a v hb hl => by
  obtain ⟨H', w, a', v', e, h1, h2, h3, h4⟩ := h H t a v hb (by omega)
  exact ⟨H', w, a', v', e, h1, h2, h4⟩

theorem Bd.push {H : AH} [IsFn H] {b : Nat} {s : Str} {a v : AV} (h : Bd H b s a v) (o : AO) : Bd (H.push o) b s a v :=
  ⟨by rw [get_push_lt _ (lt_i h.get)]; exact h.get, h.own, h.row.keep fun j cs hj => by rw [get_push_lt _ (lt_i hj)]; exact hj⟩
theorem Bd.kp {H H' : AH} [IsFn H] {b : Nat} {s : Str} {a v : AV} (h : Bd H b s a v) (k : Kp H H' (fun _ => False)) : Bd H' b s a v :=
  ⟨(k.keep b (lt_i h.get) (fun h => h)).trans h.get, h.own, h.row.keep fun j cs hj => (k.keep j (lt_i hj) (fun h => h)).trans hj⟩
theorem Bk.cells {H H' : AH} {b i : Nat} {cs : List AV} (h : Bk H H' b) (hi : i ≠ b) (hg : H.get i = some (.cells cs)) : H'.get i = some (.cells cs) := h i _ hi hg (fun k cs e => by cases e)

def TextOk (v : Val) : Prop := ∀ row, EV v row → okT v → ∀ b, Put 47 [.ptr b 0, .agg row] b (txt v)

set_option maxHeartbeats 1000000 in
theorem txt_list (ob : Bool) (l : List Val) (hl : l.length < 1000000000) (ih : ∀ v ∈ l, TextOk v) (hok : okTs l) {rows : List (List AV)} (hE : EVs l rows) {ns : List Str} (hns : ob = true → ns.length = l.length) (hn : ∀ n ∈ ns, n.length < 1000000000)
    {p b : Nat} (hpb : p ≠ b) {kind : Int} {s : Str} (hkd : (kind == 8) = ob) {t1 tk : Tk} (kb : KT Prop) (t : Str) (htot : t.length + (txtK ob true ns l).length < 10000000000) (e4 : AV)
    {Hs : AH} (hyes : ∀ (H' : AH) [IsFn H'] (a v : AV), Bd H' b (t ++ txtK ob true ns l) a v → Bk Hs H' b → ∀ (x1 x3 x5 x6 x8 x13 x17 x24 x29 x35 x36 x37 x38 x43 x48 : AV), kb [.ptr b 0, x1, x3, e4, x5, x6, x8, x13, x17, x24, x29, x35, x36, x37, x38, x43, x48] H')
    {H : AH} [IsFn H] {a v : AV} (hb : Bd H b t a v) (hg : H.get p = some (.cells [.int .i64 kind, .str s, .sl (strRows ns) t1, .sl rows tk])) (hk0 : Bk Hs H b) (x1 x5 x6 x8 x13 x17 x24 x29 x38 x43 x48 : AV) :
    qLoop (l47_10 EP kb) [.ptr b 0, x1, .ptr p 0, e4, x5, x6, x8, x13, x17, x24, x29, .sl rows tk, .int .i64 (l.length : Int), .int .i64 0, x38, x43, x48] H := by
  refine loop_inv (fun m fr H' => ∃ (i : Nat) (t' : Str) (a v : AV) (x1 x5 x6 x8 x13 x17 x24 x29 x38 x43 x48 : AV), m = l.length - i ∧ i ≤ l.length ∧ fr = [.ptr b 0, x1, .ptr p 0, e4, x5, x6, x8, x13, x17, x24, x29, .sl rows tk, .int .i64 (l.length : Int), .int .i64 (i : Int), x38, x43, x48] ∧ IsFn H' ∧ Bd H' b t' a v ∧
      H'.get p = some (.cells [.int .i64 kind, .str s, .sl (strRows ns) t1, .sl rows tk]) ∧ t' ++ txtK ob (i == 0) (ns.drop i) (l.drop i) = t ++ txtK ob true ns l ∧ Bk Hs H' b) ?_ (m := l.length) ?_
  · rintro m fr H' k ⟨i, t', a, v, x1, x5, x6, x8, x13, x17, x24, x29, x38, x43, x48, rfl, hi, rfl, hf, hb, hg, heq, hbk⟩ hk
    rcases Nat.lt_or_ge i l.length with h | h
    · have h' : (i : Int) < (l.length : Int) := by omega
      obtain ⟨r, g1, g2⟩ := hE.get (List.getElem?_eq_getElem h)
      have ia := fun k => qIa_rows (R := Prop) (tk := tk) g1 g2.four k
      have la := fun (H : AH) k => (show qLdA (R := Prop) 4 (.vptr r 0) H k = k (.agg r) by rw [qLdA_vptr, slice_whole r 4 g2.four, qO_some])
      obtain ⟨q, Ha, Hb, x1, x2, x3, x4, x5, x6⟩ := boxK (R := Prop) (Hs := H') (H := H') (.refl _) z25 r (n := 4) rfl g2.four g2.ones
      haveI := x5.fn
      have hgb := (x6 p _ hg).1
      have hbb := hb.kp x5
      have hw := wrap_up i (by omega)
      have ld0 : ∀ {H : AH}, H.get p = some (.cells [.int .i64 kind, .str s, .sl (strRows ns) t1, .sl rows tk]) → ∀ k : AV → Prop, qLd (.ptr p 0) H k = k (.int .i64 kind) := fun hg k => ld1 (R := Prop) hg 0 _ rfl k
      have ld2 : ∀ {H : AH}, H.get p = some (.cells [.int .i64 kind, .str s, .sl (strRows ns) t1, .sl rows tk]) → ∀ k : AV → Prop, qLd (.ptr p 2) H k = k (.sl (strRows ns) t1) := fun hg k => ld1 (R := Prop) hg 2 _ rfl k
      rw [List.drop_eq_getElem_cons h] at heq
      simp only [txtK] at heq
      have htot' := congrArg List.length heq
      simp only [List.length_append] at htot'
      have hih := ih l[i] (List.getElem_mem h) r g2 (okTs_mem hok _ (List.getElem_mem h)) b
      have hbk1 : Bk H' Hb b := fun j o hj hgj hno => (x5.keep j (lt_i hgj) (fun h => h)).trans hgj
      have ldq : ∀ {H : AH}, H.get q = some (.cells r) → ∀ k : AV → Prop, qLdA 4 (.ptr q 0) H k = k (.agg r) := fun hg k => qLdA_whole (R := Prop) hg g2.four k
      have hqb : q ≠ b := by have := lt_i hb.get; omega
      have htail : (ns.drop i).tail = ns.drop (i + 1) := by simp
      rw [htail] at heq htot'
      have fin : ∀ (H1 : AH) [IsFn H1] (a1 v1 : AV) (tA : Str), Bd H1 b tA a1 v1 → H1.get p = some (.cells [.int .i64 kind, .str s, .sl (strRows ns) t1, .sl rows tk]) → Bk H' H1 b → tA ++ (txt l[i] ++ txtK ob false (ns.drop (i + 1)) (l.drop (i + 1))) = t ++ txtK ob true ns l →
          ∃ H2 w, EP 47 [.ptr b 0, .agg r] H1 = some (.val w H2) ∧ ∀ (x1 x5 x6 x8 x13 x17 x24 x29 x38 x43 x48 : AV), k [.ptr b 0, x1, .ptr p 0, e4, x5, x6, x8, x13, x17, x24, x29, .sl rows tk, .int .i64 (l.length : Int), .int .i64 ((i + 1 : Nat) : Int), x38, x43, x48] H2 := by
        intro H1 _ a1 v1 tA hb1 hp1 hbk2 he1
        have hlen := congrArg List.length he1
        simp only [List.length_append] at hlen
        obtain ⟨H2, w, a2, v2, e, hb2, hf2, hk2⟩ := hih H1 tA a1 v1 hb1 (by omega)
        refine ⟨H2, w, e, fun x1 x5 x6 x8 x13 x17 x24 x29 x38 x43 x48 => hk (l.length - (i + 1)) _ _ (by omega) ⟨i + 1, _, _, _, _, _, _, _, _, _, _, _, _, _, _, rfl, h, rfl, hf2, hb2, hk2.cells hpb hp1, ?_, (hbk.trans hbk2).trans hk2⟩⟩
        rw [show ((i + 1 == 0) : Bool) = false from rfl]
        rw [← he1]
        simp
      cases ob with
      | false =>
        simp only [cond_false, List.nil_append] at heq
        rcases Nat.eq_zero_or_pos i with h0 | h0
        · subst h0
          obtain ⟨H2, w, e, hc⟩ := fin Hb a v t' hbb hgb hbk1 (by simpa using heq)
          have c0 : ¬ (((0 : Nat) : Int) > 0) := by omega
          simp -implicitDefEqProofs only [l47_10, r47_14, r47_15, r47_16, r47_18, r47_20, r47_21, opn_z, opn_s, sel_z, sel_s, qCd_eq, qIf_true, qIf_false, qFn_eq, qBl_eq, qO_some, qRes_val, qHp_some, qPick_true, qPick_false, qG_tt, qG_ff, qG_tf, qG_ft, cellsK_some, qLd_vptr, qLdA_vptr, qFa_ptr, qFa_vptr, qNc_ptr, qNc_vptr, qNc_fn, qNot_bool, qExt_tup, qCallV_fn, qLss_int, qLeq_int, qGtr_int, qGeq_int, qEql_int, qNeq_int, qAdd_int, qSub_int, qMul_int, qConvI_int, qLenL_sl, qLenL_hsl, qLenS_str, foldO, min2_int, max2_int, qSame_refl, Nat.zero_add, List.getElem?_cons_zero, List.getElem?_cons_succ, List.nil_append, List.cons_append, List.append_nil, one_bool, one_int, one_str, one_nilp, one_ptr, one_sl, one_hsl, one_map, one_fn, List.length_cons, List.length_nil, List.set_cons_zero, List.set_cons_succ, Nat.reduceLT, Nat.reduceAdd, qG_un, h', decide_true, ia, la, x1, x2, c0, decide_false, ld0 hgb, hkd, ldq x3, e, hw]
          (first | exact hc _ _ _ _ _ _ _ _ _ _ _ | (apply hc <;> exact Aes.undef))
        · have c0 : ((i : Int) > 0) := by omega
          have hi0 : (i == 0) = false := by simp; omega
          rw [hi0] at heq htot'
          simp only [cond_false] at heq htot'
          obtain ⟨Hc, w1, a1, v1, e1, hb1, hf1, hk1⟩ := (wr51 b 44).put Hb t' a v hbb (by simp at htot' ⊢; omega)
          have e1' : EP 51 [.ptr b 0, .int .u8 44] Hb = some (.val w1 Hc) := e1
          have hgc := hk1.cells hpb hgb
          obtain ⟨H2, w, e, hc⟩ := fin Hc a1 v1 _ hb1 hgc (hbk1.trans hk1) (by simpa using heq)
          simp -implicitDefEqProofs only [l47_10, r47_14, r47_15, r47_16, r47_17, r47_18, r47_20, r47_21, opn_z, opn_s, sel_z, sel_s, qCd_eq, qIf_true, qIf_false, qFn_eq, qBl_eq, qO_some, qRes_val, qHp_some, qPick_true, qPick_false, qG_tt, qG_ff, qG_tf, qG_ft, cellsK_some, qLd_vptr, qLdA_vptr, qFa_ptr, qFa_vptr, qNc_ptr, qNc_vptr, qNc_fn, qNot_bool, qExt_tup, qCallV_fn, qLss_int, qLeq_int, qGtr_int, qGeq_int, qEql_int, qNeq_int, qAdd_int, qSub_int, qMul_int, qConvI_int, qLenL_sl, qLenL_hsl, qLenS_str, foldO, min2_int, max2_int, qSame_refl, Nat.zero_add, List.getElem?_cons_zero, List.getElem?_cons_succ, List.nil_append, List.cons_append, List.append_nil, one_bool, one_int, one_str, one_nilp, one_ptr, one_sl, one_hsl, one_map, one_fn, List.length_cons, List.length_nil, List.set_cons_zero, List.set_cons_succ, Nat.reduceLT, Nat.reduceAdd, qG_un, h', decide_true, ia, la, x1, x2, c0, e1', ld0 hgc, hkd, ldq (hk1.cells hqb x3), e, hw]
          (first | exact hc _ _ _ _ _ _ _ _ _ _ _ | (apply hc <;> exact Aes.undef))
      | true =>
        simp only [cond_true] at heq htot'
        have hnl := hns rfl
        have hni : i < ns.length := by omega
        have hhd : (ns.drop i).headD [] = ns[i] := by rw [List.drop_eq_getElem_cons hni]; rfl
        rw [hhd] at heq htot'
        have e29 := fun H => ep29 ns[i] (hn _ (List.getElem_mem hni)) H
        have ib := fun k => qIa_strs (tk := t1) (show ns[i]? = some ns[i] from List.getElem?_eq_getElem hni) k
        have l1 := fun (H : AH) (k : AV → Prop) => (show qLd (.vptr [.str ns[i]] 0) H k = k (.str ns[i]) from rfl)
        have qa := fun k => qAdd_str (R := Prop) X 9 (quoteF ns[i]) [58] (by unfold most; simp at htot' ⊢; omega) k
        rcases Nat.eq_zero_or_pos i with h0 | h0
        · subst h0
          have c0 : ¬ (((0 : Nat) : Int) > 0) := by omega
          obtain ⟨Hd, w2, a2, v2, e2, hb2, hf2, hk2⟩ := (wr53 b (quoteF ns[0] ++ [58])).put Hb t' a v hbb (by simp at htot' ⊢; omega)
          have hgd := hk2.cells hpb hgb
          obtain ⟨H2, w, e, hc⟩ := fin Hd a2 v2 _ hb2 hgd (hbk1.trans hk2) (by simpa using heq)
          simp -implicitDefEqProofs only [l47_10, r47_14, r47_15, r47_16, r47_18, r47_19, r47_20, r47_21, opn_z, opn_s, sel_z, sel_s, qCd_eq, qIf_true, qIf_false, qFn_eq, qBl_eq, qO_some, qRes_val, qHp_some, qPick_true, qPick_false, qG_tt, qG_ff, qG_tf, qG_ft, cellsK_some, qLd_vptr, qLdA_vptr, qFa_ptr, qFa_vptr, qNc_ptr, qNc_vptr, qNc_fn, qNot_bool, qExt_tup, qCallV_fn, qLss_int, qLeq_int, qGtr_int, qGeq_int, qEql_int, qNeq_int, qAdd_int, qSub_int, qMul_int, qConvI_int, qLenL_sl, qLenL_hsl, qLenS_str, foldO, min2_int, max2_int, qSame_refl, Nat.zero_add, List.getElem?_cons_zero, List.getElem?_cons_succ, List.nil_append, List.cons_append, List.append_nil, one_bool, one_int, one_str, one_nilp, one_ptr, one_sl, one_hsl, one_map, one_fn, List.length_cons, List.length_nil, List.set_cons_zero, List.set_cons_succ, Nat.reduceLT, Nat.reduceAdd, qG_un, h', decide_true, ia, la, x1, x2, c0, decide_false, ld0 hgb, hkd, ld2 hgb, ib, l1, e29, qa, e2, ldq (hk2.cells hqb x3), e, hw]
          (first | exact hc _ _ _ _ _ _ _ _ _ _ _ | (apply hc <;> exact Aes.undef))
        · have c0 : ((i : Int) > 0) := by omega
          have hi0 : (i == 0) = false := by simp; omega
          rw [hi0] at heq htot'
          simp only [cond_false] at heq htot'
          obtain ⟨Hc, w1, a1, v1, e1, hb1, hf1, hk1⟩ := (wr51 b 44).put Hb t' a v hbb (by simp at htot' ⊢; omega)
          have e1' : EP 51 [.ptr b 0, .int .u8 44] Hb = some (.val w1 Hc) := e1
          have hgc := hk1.cells hpb hgb
          obtain ⟨Hd, w2, a2, v2, e2, hb2, hf2, hk2⟩ := (wr53 b (quoteF ns[i] ++ [58])).put Hc _ a1 v1 hb1 (by simp at htot' ⊢; omega)
          have hgd := hk2.cells hpb hgc
          obtain ⟨H2, w, e, hc⟩ := fin Hd a2 v2 _ hb2 hgd ((hbk1.trans hk1).trans hk2) (by simpa using heq)
          simp -implicitDefEqProofs only [l47_10, r47_14, r47_15, r47_16, r47_17, r47_18, r47_19, r47_20, r47_21, opn_z, opn_s, sel_z, sel_s, qCd_eq, qIf_true, qIf_false, qFn_eq, qBl_eq, qO_some, qRes_val, qHp_some, qPick_true, qPick_false, qG_tt, qG_ff, qG_tf, qG_ft, cellsK_some, qLd_vptr, qLdA_vptr, qFa_ptr, qFa_vptr, qNc_ptr, qNc_vptr, qNc_fn, qNot_bool, qExt_tup, qCallV_fn, qLss_int, qLeq_int, qGtr_int, qGeq_int, qEql_int, qNeq_int, qAdd_int, qSub_int, qMul_int, qConvI_int, qLenL_sl, qLenL_hsl, qLenS_str, foldO, min2_int, max2_int, qSame_refl, Nat.zero_add, List.getElem?_cons_zero, List.getElem?_cons_succ, List.nil_append, List.cons_append, List.append_nil, one_bool, one_int, one_str, one_nilp, one_ptr, one_sl, one_hsl, one_map, one_fn, List.length_cons, List.length_nil, List.set_cons_zero, List.set_cons_succ, Nat.reduceLT, Nat.reduceAdd, qG_un, h', decide_true, ia, la, x1, x2, c0, e1', ld0 hgc, hkd, ld2 hgc, ib, l1, e29, qa, e2, ldq (hk2.cells hqb (hk1.cells hqb x3)), e, hw]
          (first | exact hc _ _ _ _ _ _ _ _ _ _ _ | (apply hc <;> exact Aes.undef))
    · have h' : ¬ (i : Int) < (l.length : Int) := by omega
      have hi' : i = l.length := by omega
      subst hi'
      simp only [List.drop_length, txtK, List.append_nil] at heq
      subst heq
      simp -implicitDefEqProofs only [l47_10, r47_14, opn_z, opn_s, sel_z, sel_s, qCd_eq, qIf_true, qIf_false, qFn_eq, qBl_eq, qO_some, qRes_val, qHp_some, qPick_true, qPick_false, qG_tt, qG_ff, qG_tf, qG_ft, cellsK_some, qLd_vptr, qLdA_vptr, qFa_ptr, qFa_vptr, qNc_ptr, qNc_vptr, qNc_fn, qNot_bool, qExt_tup, qCallV_fn, qLss_int, qLeq_int, qGtr_int, qGeq_int, qEql_int, qNeq_int, qAdd_int, qSub_int, qMul_int, qConvI_int, qLenL_sl, qLenL_hsl, qLenS_str, foldO, min2_int, max2_int, qSame_refl, Nat.zero_add, List.getElem?_cons_zero, List.getElem?_cons_succ, List.nil_append, List.cons_append, List.append_nil, one_bool, one_int, one_str, one_nilp, one_ptr, one_sl, one_hsl, one_map, one_fn, List.length_cons, List.length_nil, List.set_cons_zero, List.set_cons_succ, Nat.reduceLT, Nat.reduceAdd, qG_un, h', decide_false]
      (first | exact hyes H' a v hb hbk _ _ _ _ _ _ _ _ _ _ _ _ _ _ _ | (apply hyes H' a v hb hbk <;> exact Aes.undef))
  · exact ⟨0, t, a, v, _, _, _, _, _, _, _, _, _, _, _, rfl, by omega, rfl, inferInstance, hb, hg, by simp, hk0⟩
end T
set_option linter.unusedVariables false
set_option linter.unusedSimpArgs false
set_option maxRecDepth 10000
namespace T
open Go Go.Aes Go.Proofs

theorem brack (kind : Int) (o c : UInt8) (k : AV → Prop) : qIx (.str [o, c]) (.int .i64 0) k = k (.int .u8 o.toNat) := rfl
theorem brack1 (o c : UInt8) (k : AV → Prop) : qIx (.str [o, c]) (.int .i64 1) k = k (.int .u8 c.toNat) := rfl

set_option maxHeartbeats 1000000 in
theorem text_node {kind : Int} {s : Str} {ns : List Str} {l : List Val} (ih : ∀ v ∈ l, TextOk v) : TextOk (.mk kind s ns l) := by
  rintro row ⟨t1, t2, rows, rfl, hE⟩ ⟨z1, z2, z3, z4, z5⟩ b H _ t a v hb hl
  have hfr : (PS 47 && AV.frees (AV.kills [.ptr b 0, .agg [.int .i64 kind, .str s, .sl (strRows ns) t1, .sl rows t2]])) = false := rfl
  obtain ⟨w, H', e, hq⟩ := ao_form (X := X) (D := OD2) (O := OF2) (S := PS) (al := [.ptr b 0, .agg [.int .i64 kind, .str s, .sl (strRows ns) t1, .sl rows t2]]) (H := H) e47 xf47 rfl hfr
    (Q := fun w H' => ∃ a' v', Bd H' b (t ++ txt (.mk kind s ns l)) a' v' ∧ IsFn H' ∧ Bk H H' b) (by
    have bx := fun k => bxV (H := H) (r := [.int .i64 kind, .str s, .sl (strRows ns) t1, .sl rows t2]) rfl k
    have hg0 := get_push_at (H := H) (.cells [.int .i64 kind, .str s, .sl (strRows ns) t1, .sl rows t2])
    have hb0 := hb.push (.cells [.int .i64 kind, .str s, .sl (strRows ns) t1, .sl rows t2])
    have hpb : H.nx ≠ b := by have := lt_i hb.get; omega
    have hbk0 : Bk H (H.push (.cells [.int .i64 kind, .str s, .sl (strRows ns) t1, .sl rows t2])) b := fun j o _ hgj _ => by rw [get_push_lt _ (lt_i hgj)]; exact hgj
    have hif : IsFn (H.push (.cells [.int .i64 kind, .str s, .sl (strRows ns) t1, .sl rows t2])) := inferInstance
    simp -implicitDefEqProofs only [c47, r47_0, opn_z, opn_s, sel_z, sel_s, qCd_eq, qIf_true, qIf_false, qFn_eq, qBl_eq, qO_some, qRes_val, qHp_some, qPick_true, qPick_false, qG_tt, qG_ff, qG_tf, qG_ft, cellsK_some, qLd_vptr, qLdA_vptr, qFa_ptr, qFa_vptr, qNc_ptr, qNc_vptr, qNc_fn, qNot_bool, qExt_tup, qCallV_fn, qLss_int, qLeq_int, qGtr_int, qGeq_int, qEql_int, qNeq_int, qAdd_int, qSub_int, qMul_int, qConvI_int, qLenL_sl, qLenL_hsl, qLenS_str, foldO, min2_int, max2_int, qSame_refl, Nat.zero_add, List.getElem?_cons_zero, List.getElem?_cons_succ, List.nil_append, List.cons_append, List.append_nil, one_bool, one_int, one_str, one_nilp, one_ptr, one_sl, one_hsl, one_map, one_fn, List.length_cons, List.length_nil, List.set_cons_zero, List.set_cons_succ, Nat.reduceLT, Nat.reduceAdd, qG_un, bx]
    generalize H.nx = p at *
    generalize H.push (.cells [.int .i64 kind, .str s, .sl (strRows ns) t1, .sl rows t2]) = H0' at *
    have p0 := fun k => ld1 (R := Prop) hg0 0 _ rfl k
    have p1 := fun k => ld1 (R := Prop) hg0 1 _ rfl k
    by_cases k1 : kind = 1
    · subst k1
      have ht : txt (.mk 1 s ns l) = sNull := by simp [txt]
      rw [ht] at hl ⊢
      obtain ⟨H1, w1, a1, v1, e1, h1, h2, h3⟩ := (wr53 b sNull).put H0' t a v hb0 hl
      have e1' : EP 53 [.ptr b 0, .str [110,117,108,108]] H0' = some (.val w1 H1) := e1
      simp -implicitDefEqProofs only [r47_1, r47_3, r47_4, opn_z, opn_s, sel_z, sel_s, qCd_eq, qIf_true, qIf_false, qFn_eq, qBl_eq, qO_some, qRes_val, qHp_some, qPick_true, qPick_false, qG_tt, qG_ff, qG_tf, qG_ft, cellsK_some, qLd_vptr, qLdA_vptr, qFa_ptr, qFa_vptr, qNc_ptr, qNc_vptr, qNc_fn, qNot_bool, qExt_tup, qCallV_fn, qLss_int, qLeq_int, qGtr_int, qGeq_int, qEql_int, qNeq_int, qAdd_int, qSub_int, qMul_int, qConvI_int, qLenL_sl, qLenL_hsl, qLenS_str, foldO, min2_int, max2_int, qSame_refl, Nat.zero_add, List.getElem?_cons_zero, List.getElem?_cons_succ, List.nil_append, List.cons_append, List.append_nil, one_bool, one_int, one_str, one_nilp, one_ptr, one_sl, one_hsl, one_map, one_fn, List.length_cons, List.length_nil, List.set_cons_zero, List.set_cons_succ, Nat.reduceLT, Nat.reduceAdd, qG_un, p0, beq_self_eq_true, e1']
      exact ⟨_, _, h1, h2, hbk0.trans h3⟩
    have n1 : (kind == 1) = false := by simpa using k1
    by_cases k5 : kind = 5
    · subst k5
      have ht : txt (.mk 5 s ns l) = quoteF s := by simp [txt]
      rw [ht] at hl ⊢
      have e29 := fun H => ep29 s z1 H
      obtain ⟨H1, w1, a1, v1, e1, h1, h2, h3⟩ := (wr53 b (quoteF s)).put H0' t a v hb0 hl
      simp -implicitDefEqProofs only [r47_1, r47_3, r47_5, r47_6, opn_z, opn_s, sel_z, sel_s, qCd_eq, qIf_true, qIf_false, qFn_eq, qBl_eq, qO_some, qRes_val, qHp_some, qPick_true, qPick_false, qG_tt, qG_ff, qG_tf, qG_ft, cellsK_some, qLd_vptr, qLdA_vptr, qFa_ptr, qFa_vptr, qNc_ptr, qNc_vptr, qNc_fn, qNot_bool, qExt_tup, qCallV_fn, qLss_int, qLeq_int, qGtr_int, qGeq_int, qEql_int, qNeq_int, qAdd_int, qSub_int, qMul_int, qConvI_int, qLenL_sl, qLenL_hsl, qLenS_str, foldO, min2_int, max2_int, qSame_refl, Nat.zero_add, List.getElem?_cons_zero, List.getElem?_cons_succ, List.nil_append, List.cons_append, List.append_nil, one_bool, one_int, one_str, one_nilp, one_ptr, one_sl, one_hsl, one_map, one_fn, List.length_cons, List.length_nil, List.set_cons_zero, List.set_cons_succ, Nat.reduceLT, Nat.reduceAdd, qG_un, p0, n1, beq_self_eq_true, p1, e29, e1]
      exact ⟨_, _, h1, h2, hbk0.trans h3⟩
    have n5 : (kind == 5) = false := by simpa using k5
    have p3 := fun k => ld1 (R := Prop) hg0 3 _ rfl k
    by_cases k7 : kind = 7
    · subst k7
      have ht : txt (.mk 7 s ns l) = [91] ++ txtK false true ns l ++ [93] := by simp [txt]
      rw [ht] at hl ⊢
      simp only [List.length_append, List.length_cons, List.length_nil] at hl
      obtain ⟨H1, w1, a1, v1, e1, h1, hif1, h3⟩ := (wr51 b 91).put H0' t a v hb0 (by simp; omega)
      have hg1 := h3.cells hpb hg0
      have p3' := fun k => ld1 (R := Prop) hg1 3 _ rfl k
      have b0 := fun k => brack 7 91 93 k
      simp -implicitDefEqProofs only [r47_1, r47_3, r47_5, r47_7, r47_9, r47_10, r47_12, r47_13, opn_z, opn_s, sel_z, sel_s, qCd_eq, qIf_true, qIf_false, qFn_eq, qBl_eq, qO_some, qRes_val, qHp_some, qPick_true, qPick_false, qG_tt, qG_ff, qG_tf, qG_ft, cellsK_some, qLd_vptr, qLdA_vptr, qFa_ptr, qFa_vptr, qNc_ptr, qNc_vptr, qNc_fn, qNot_bool, qExt_tup, qCallV_fn, qLss_int, qLeq_int, qGtr_int, qGeq_int, qEql_int, qNeq_int, qAdd_int, qSub_int, qMul_int, qConvI_int, qLenL_sl, qLenL_hsl, qLenS_str, foldO, min2_int, max2_int, qSame_refl, Nat.zero_add, List.getElem?_cons_zero, List.getElem?_cons_succ, List.nil_append, List.cons_append, List.append_nil, one_bool, one_int, one_str, one_nilp, one_ptr, one_sl, one_hsl, one_map, one_fn, List.length_cons, List.length_nil, List.set_cons_zero, List.set_cons_succ, Nat.reduceLT, Nat.reduceAdd, qG_un, p0, n1, n5, beq_self_eq_true, show ((7 : Int) == 8) = false from rfl, b0, e1, p3', hE.len]
      refine txt_list false l z4 ih z5 hE (fun h => by cases h) z2 hpb (kind := 7) (s := s) rfl _ (t ++ [91]) (by simp; omega) (.str [91, 93]) (Hs := H) (fun H2 _ a2 v2 hb2 hk2 x1 x3 x5 x6 x8 x13 x17 x24 x29 x35 x36 x37 x38 x43 x48 => ?_) h1 hg1 (hbk0.trans h3) _ _ _ _ _ _ _ _ _ _ _
      obtain ⟨H3, w3, a3, v3, e3, h31, h32, h33⟩ := (wr51 b 93).put H2 _ a2 v2 hb2 (by simp; omega)
      have b1 := fun k => brack1 91 93 k
      simp -implicitDefEqProofs only [r47_22, opn_z, opn_s, sel_z, sel_s, qCd_eq, qIf_true, qIf_false, qFn_eq, qBl_eq, qO_some, qRes_val, qHp_some, qPick_true, qPick_false, qG_tt, qG_ff, qG_tf, qG_ft, cellsK_some, qLd_vptr, qLdA_vptr, qFa_ptr, qFa_vptr, qNc_ptr, qNc_vptr, qNc_fn, qNot_bool, qExt_tup, qCallV_fn, qLss_int, qLeq_int, qGtr_int, qGeq_int, qEql_int, qNeq_int, qAdd_int, qSub_int, qMul_int, qConvI_int, qLenL_sl, qLenL_hsl, qLenS_str, foldO, min2_int, max2_int, qSame_refl, Nat.zero_add, List.getElem?_cons_zero, List.getElem?_cons_succ, List.nil_append, List.cons_append, List.append_nil, one_bool, one_int, one_str, one_nilp, one_ptr, one_sl, one_hsl, one_map, one_fn, List.length_cons, List.length_nil, List.set_cons_zero, List.set_cons_succ, Nat.reduceLT, Nat.reduceAdd, qG_un, b1, e3]
      refine ⟨a3, v3, ?_, h32, hk2.trans h33⟩
      simpa using h31
    have n7 : (kind == 7) = false := by simpa using k7
    by_cases k8 : kind = 8
    · subst k8
      have ht : txt (.mk 8 s ns l) = [123] ++ txtK true true ns l ++ [125] := by simp [txt]
      rw [ht] at hl ⊢
      simp only [List.length_append, List.length_cons, List.length_nil] at hl
      obtain ⟨H1, w1, a1, v1, e1, h1, hif1, h3⟩ := (wr51 b 123).put H0' t a v hb0 (by simp; omega)
      have hg1 := h3.cells hpb hg0
      have p3' := fun k => ld1 (R := Prop) hg1 3 _ rfl k
      have b0 := fun k => brack 8 123 125 k
      simp -implicitDefEqProofs only [r47_1, r47_3, r47_5, r47_7, r47_8, r47_9, r47_10, r47_11, r47_12, r47_13, opn_z, opn_s, sel_z, sel_s, qCd_eq, qIf_true, qIf_false, qFn_eq, qBl_eq, qO_some, qRes_val, qHp_some, qPick_true, qPick_false, qG_tt, qG_ff, qG_tf, qG_ft, cellsK_some, qLd_vptr, qLdA_vptr, qFa_ptr, qFa_vptr, qNc_ptr, qNc_vptr, qNc_fn, qNot_bool, qExt_tup, qCallV_fn, qLss_int, qLeq_int, qGtr_int, qGeq_int, qEql_int, qNeq_int, qAdd_int, qSub_int, qMul_int, qConvI_int, qLenL_sl, qLenL_hsl, qLenS_str, foldO, min2_int, max2_int, qSame_refl, Nat.zero_add, List.getElem?_cons_zero, List.getElem?_cons_succ, List.nil_append, List.cons_append, List.append_nil, one_bool, one_int, one_str, one_nilp, one_ptr, one_sl, one_hsl, one_map, one_fn, List.length_cons, List.length_nil, List.set_cons_zero, List.set_cons_succ, Nat.reduceLT, Nat.reduceAdd, qG_un, p0, n1, n5, n7, beq_self_eq_true, b0, e1, p3', hE.len]
      refine txt_list true l z4 ih z5 hE (fun _ => z3 rfl) z2 hpb (kind := 8) (s := s) rfl _ (t ++ [123]) (by simp; omega) (.str [123, 125]) (Hs := H) (fun H2 _ a2 v2 hb2 hk2 x1 x3 x5 x6 x8 x13 x17 x24 x29 x35 x36 x37 x38 x43 x48 => ?_) h1 hg1 (hbk0.trans h3) _ _ _ _ _ _ _ _ _ _ _
      obtain ⟨H3, w3, a3, v3, e3, h31, h32, h33⟩ := (wr51 b 125).put H2 _ a2 v2 hb2 (by simp; omega)
      have b1 := fun k => brack1 123 125 k
      simp -implicitDefEqProofs only [r47_22, opn_z, opn_s, sel_z, sel_s, qCd_eq, qIf_true, qIf_false, qFn_eq, qBl_eq, qO_some, qRes_val, qHp_some, qPick_true, qPick_false, qG_tt, qG_ff, qG_tf, qG_ft, cellsK_some, qLd_vptr, qLdA_vptr, qFa_ptr, qFa_vptr, qNc_ptr, qNc_vptr, qNc_fn, qNot_bool, qExt_tup, qCallV_fn, qLss_int, qLeq_int, qGtr_int, qGeq_int, qEql_int, qNeq_int, qAdd_int, qSub_int, qMul_int, qConvI_int, qLenL_sl, qLenL_hsl, qLenS_str, foldO, min2_int, max2_int, qSame_refl, Nat.zero_add, List.getElem?_cons_zero, List.getElem?_cons_succ, List.nil_append, List.cons_append, List.append_nil, one_bool, one_int, one_str, one_nilp, one_ptr, one_sl, one_hsl, one_map, one_fn, List.length_cons, List.length_nil, List.set_cons_zero, List.set_cons_succ, Nat.reduceLT, Nat.reduceAdd, qG_un, b1, e3]
      refine ⟨a3, v3, ?_, h32, hk2.trans h33⟩
      simpa using h31
    have n8 : (kind == 8) = false := by simpa using k8
    have ht : txt (.mk kind s ns l) = s := by simp [txt, k1, k5, k7, k8]
    rw [ht] at hl ⊢
    obtain ⟨H1, w1, a1, v1, e1, h1, h2, h3⟩ := (wr53 b s).put H0' t a v hb0 hl
    simp -implicitDefEqProofs only [r47_1, r47_2, r47_3, r47_5, r47_7, r47_8, opn_z, opn_s, sel_z, sel_s, qCd_eq, qIf_true, qIf_false, qFn_eq, qBl_eq, qO_some, qRes_val, qHp_some, qPick_true, qPick_false, qG_tt, qG_ff, qG_tf, qG_ft, cellsK_some, qLd_vptr, qLdA_vptr, qFa_ptr, qFa_vptr, qNc_ptr, qNc_vptr, qNc_fn, qNot_bool, qExt_tup, qCallV_fn, qLss_int, qLeq_int, qGtr_int, qGeq_int, qEql_int, qNeq_int, qAdd_int, qSub_int, qMul_int, qConvI_int, qLenL_sl, qLenL_hsl, qLenS_str, foldO, min2_int, max2_int, qSame_refl, Nat.zero_add, List.getElem?_cons_zero, List.getElem?_cons_succ, List.nil_append, List.cons_append, List.append_nil, one_bool, one_int, one_str, one_nilp, one_ptr, one_sl, one_hsl, one_map, one_fn, List.length_cons, List.length_nil, List.set_cons_zero, List.set_cons_succ, Nat.reduceLT, Nat.reduceAdd, qG_un, p0, n1, n5, n7, n8, p1, e1]
    exact ⟨_, _, h1, h2, hbk0.trans h3⟩)
  obtain ⟨a', v', h1, h2, h3⟩ := hq
  exact ⟨H', w, a', v', e, h1, h2, h3⟩

mutual
theorem text_all : ∀ v, TextOk v
  | .mk k s ns l => text_node (texts_all l)
theorem texts_all : ∀ (l : List Val), ∀ v ∈ l, TextOk v
  | [], v, hv => by cases hv
  | a :: l, v, hv => by
    rcases List.mem_cons.1 hv with h | hv
    · rw [h]; exact text_all a
    · exact texts_all l v hv
end

/-- Text: of what is right its text -/
def textF (v : Val) : Str := if rightF 12 v then txt v else []
theorem ep21 {v : Val} {r : List AV} (ev : EV v r) (hsz : vsz v) (hok : okT v) (hl : (txt v).length < 1000000000) (H : AH) : EP 21 [.agg r] H = some (.val (.str (textF v)) H) := by
  obtain ⟨a1, a2⟩ := EV.kill _ _ ev
  refine uo_form e21 xf21 rfl rfl (by simp only [AV.kills, AV.kill, AV.frees, AV.free, a2]; rfl) rfl ?_ H
  simp only [AV.kills, AV.kill]
  have bx := fun k => bxV (H := H0) a1.ones k
  have hg := get_push_at (H := H0) (.cells (AV.kills r))
  have ld := fun k => qLdA_whole (R := Prop) (n := 4) hg a1.four k
  have e19 := fun H => ep19 a1 hsz H
  cases hr : rightF 12 v with
  | false =>
    rw [hr] at e19
    simp -implicitDefEqProofs only [c21, r21_0, r21_1, r21_2, opn_z, opn_s, sel_z, sel_s, qCd_eq, qIf_true, qIf_false, qFn_eq, qBl_eq, qO_some, qRes_val, qHp_some, qPick_true, qPick_false, qG_tt, qG_ff, qG_tf, qG_ft, cellsK_some, qLd_vptr, qLdA_vptr, qFa_ptr, qFa_vptr, qNc_ptr, qNc_vptr, qNc_fn, qNot_bool, qExt_tup, qCallV_fn, qLss_int, qLeq_int, qGtr_int, qGeq_int, qEql_int, qNeq_int, qAdd_int, qSub_int, qMul_int, qConvI_int, qLenL_sl, qLenL_hsl, qLenS_str, foldO, min2_int, max2_int, qSame_refl, Nat.zero_add, List.getElem?_cons_zero, List.getElem?_cons_succ, List.nil_append, List.cons_append, List.append_nil, one_bool, one_int, one_str, one_nilp, one_ptr, one_sl, one_hsl, one_map, one_fn, List.length_cons, List.length_nil, List.set_cons_zero, List.set_cons_succ, Nat.reduceLT, Nat.reduceAdd, qG_un, bx, ld, e19, Bool.not_false, AV.kill]
    simp [textF, hr]
  | true =>
    rw [hr] at e19
    have hif : IsFn (H0.push (.cells (AV.kills r))) := inferInstance
    simp -implicitDefEqProofs only [c21, r21_0, r21_1, opn_z, opn_s, sel_z, sel_s, qCd_eq, qIf_true, qIf_false, qFn_eq, qBl_eq, qO_some, qRes_val, qHp_some, qPick_true, qPick_false, qG_tt, qG_ff, qG_tf, qG_ft, cellsK_some, qLd_vptr, qLdA_vptr, qFa_ptr, qFa_vptr, qNc_ptr, qNc_vptr, qNc_fn, qNot_bool, qExt_tup, qCallV_fn, qLss_int, qLeq_int, qGtr_int, qGeq_int, qEql_int, qNeq_int, qAdd_int, qSub_int, qMul_int, qConvI_int, qLenL_sl, qLenL_hsl, qLenS_str, foldO, min2_int, max2_int, qSame_refl, Nat.zero_add, List.getElem?_cons_zero, List.getElem?_cons_succ, List.nil_append, List.cons_append, List.append_nil, one_bool, one_int, one_str, one_nilp, one_ptr, one_sl, one_hsl, one_map, one_fn, List.length_cons, List.length_nil, List.set_cons_zero, List.set_cons_succ, Nat.reduceLT, Nat.reduceAdd, qG_un, bx, ld, e19, Bool.not_true]
    generalize H0.push (.cells (AV.kills r)) = H1 at *
    have nb : ∀ k : AV → AH → Prop, qNew (.obj 63 0 z63) .ptr H1 k = k (.ptr H1.nx 0) (H1.push (.obj 63 0 [.nilp, .sl [] .nil])) := fun k => by rw [qNew_i]; rfl
    have hb0 : Bd (H1.push (.obj 63 0 [.nilp, .sl [] .nil])) H1.nx [] .nilp (.sl [] .nil) := ⟨get_push_at _, .inl rfl, .inl ⟨rfl, rfl⟩⟩
    have hg1 : (H1.push (.obj 63 0 [.nilp, .sl [] .nil])).get H0.nx = some (.cells (AV.kills r)) := by rw [get_push_lt _ (lt_i hg)]; exact hg
    have ld1' := fun k => qLdA_whole (R := Prop) (n := 4) hg1 a1.four k
    obtain ⟨H2, w, a', v', e47, hb2, hf2, _⟩ := text_all v _ a1 hok H1.nx (H1.push (.obj 63 0 [.nilp, .sl [] .nil])) [] _ _ hb0 (by simp; omega)
    obtain ⟨H3, e48, _, _, _⟩ := ep48 hb2 (by simp; omega)
    simp -implicitDefEqProofs only [r21_3, r21_4, r21_5, opn_z, opn_s, sel_z, sel_s, qCd_eq, qIf_true, qIf_false, qFn_eq, qBl_eq, qO_some, qRes_val, qHp_some, qPick_true, qPick_false, qG_tt, qG_ff, qG_tf, qG_ft, cellsK_some, qLd_vptr, qLdA_vptr, qFa_ptr, qFa_vptr, qNc_ptr, qNc_vptr, qNc_fn, qNot_bool, qExt_tup, qCallV_fn, qLss_int, qLeq_int, qGtr_int, qGeq_int, qEql_int, qNeq_int, qAdd_int, qSub_int, qMul_int, qConvI_int, qLenL_sl, qLenL_hsl, qLenS_str, foldO, min2_int, max2_int, qSame_refl, Nat.zero_add, List.getElem?_cons_zero, List.getElem?_cons_succ, List.nil_append, List.cons_append, List.append_nil, one_bool, one_int, one_str, one_nilp, one_ptr, one_sl, one_hsl, one_map, one_fn, List.length_cons, List.length_nil, List.set_cons_zero, List.set_cons_succ, Nat.reduceLT, Nat.reduceAdd, qG_un, nb, ld1', e47, e48, AV.kill]
    simp [textF, hr]
end T
set_option linter.unusedVariables false
set_option linter.unusedSimpArgs false
set_option maxRecDepth 10000
namespace T
open Go Go.Aes Go.Proofs

/-! ### Same -/
mutual
def sameF : Val → Val → Bool
  | .mk k s ns l, .mk k' s' ns' l' => decide (k = k') && decide (s = s') && decide (ns = ns') && samesF l l'
def samesF : List Val → List Val → Bool
  | [], [] => true
  | a :: l, b :: l' => sameF a b && samesF l l'
  | _, _ => false
end
mutual
theorem sameF_eq : ∀ v w, sameF v w = true ↔ v = w
  | .mk k s ns l, .mk k' s' ns' l' => by
    simp only [sameF, Bool.and_eq_true, decide_eq_true_eq, Val.mk.injEq, samesF_eq l l', and_assoc]
theorem samesF_eq : ∀ l l', samesF l l' = true ↔ l = l'
  | [], [] => by simp [samesF]
  | [], b :: l' => by simp [samesF]
  | a :: l, [] => by simp [samesF]
  | a :: l, b :: l' => by simp only [samesF, Bool.and_eq_true, List.cons.injEq, sameF_eq a b, samesF_eq l l']
end
theorem samesF_len : ∀ {l l' : List Val}, l.length ≠ l'.length → samesF l l' = false
  | [], [], h => absurd rfl h
  | [], b :: l', _ => rfl
  | a :: l, [], _ => rfl
  | a :: l, b :: l', h => by
    simp only [samesF]
    rw [samesF_len (by simpa using h), Bool.and_false]
theorem samesF_no {l l' : List Val} (hl : l.length = l'.length) {i : Nat} (h : i < l.length) (h' : i < l'.length) (hn : sameF l[i] l'[i] = false) : samesF l l' = false := by
  cases hs : samesF l l' with
  | false => rfl
  | true =>
    obtain rfl := (samesF_eq l l').1 hs
    have := (sameF_eq l[i] l[i]).2 rfl
    rw [this] at hn; cases hn

def SameOk (v : Val) : Prop := ∀ (w : Val) (r q : List AV), EV v r → EV w q → vsz v → vsz w → ∀ H, EP 23 [.agg r, .agg q] H = some (.val (.bool (sameF v w)) H)

set_option maxHeartbeats 2000000 in
theorem same_node {kind : Int} {s : Str} {ns : List Str} {l : List Val} (ih : ∀ v ∈ l, SameOk v) : SameOk (.mk kind s ns l) := by
  intro w r0 q0 hv hw hzv hzw H
  obtain ⟨a1, a2⟩ := EV.kill _ _ hv
  obtain ⟨b1, b2⟩ := EV.kill _ _ hw
  refine uo_form e23 xf23 rfl rfl (by simp only [AV.kills, AV.kill, AV.frees, AV.free, a2, b2]; rfl) rfl ?_ H
  simp only [AV.kills, AV.kill]
  cases w with
  | mk kind' s' ns' l' =>
  obtain ⟨t1, t2, rows, h1, hE⟩ := a1
  obtain ⟨u1, u2, rows', h2, hE'⟩ := b1
  rw [h1, h2]
  obtain ⟨z1, z2, z3, z4, z5⟩ := hzv
  obtain ⟨y1, y2, y3, y4, y5⟩ := hzw
  clear hv hw a2 b2 h1 h2
  have bx1 := fun k => bxV (H := H0) (r := [.int .i64 kind, .str s, .sl (strRows ns) t1, .sl rows t2]) rfl k
  have g1' := get_push_at (H := H0) (.cells [.int .i64 kind, .str s, .sl (strRows ns) t1, .sl rows t2])
  have bx2 := fun k => bxV (H := H0.push (.cells [.int .i64 kind, .str s, .sl (strRows ns) t1, .sl rows t2])) (r := [.int .i64 kind', .str s', .sl (strRows ns') u1, .sl rows' u2]) rfl k
  have g2 := get_push_at (H := H0.push (.cells [.int .i64 kind, .str s, .sl (strRows ns) t1, .sl rows t2])) (.cells [.int .i64 kind', .str s', .sl (strRows ns') u1, .sl rows' u2])
  have g1 : ((H0.push (.cells [.int .i64 kind, .str s, .sl (strRows ns) t1, .sl rows t2])).push (.cells [.int .i64 kind', .str s', .sl (strRows ns') u1, .sl rows' u2])).get H0.nx = _ := (get_push_lt _ (lt_i g1')).trans g1'
  have hif : IsFn ((H0.push (.cells [.int .i64 kind, .str s, .sl (strRows ns) t1, .sl rows t2])).push (.cells [.int .i64 kind', .str s', .sl (strRows ns') u1, .sl rows' u2])) := inferInstance
  simp -implicitDefEqProofs only [c23, r23_0, opn_z, opn_s, sel_z, sel_s, qCd_eq, qIf_true, qIf_false, qFn_eq, qBl_eq, qO_some, qRes_val, qHp_some, qPick_true, qPick_false, qG_tt, qG_ff, qG_tf, qG_ft, cellsK_some, qLd_vptr, qLdA_vptr, qFa_ptr, qFa_vptr, qNc_ptr, qNc_vptr, qNc_fn, qNot_bool, qExt_tup, qCallV_fn, qLss_int, qLeq_int, qGtr_int, qGeq_int, qEql_int, qNeq_int, qAdd_int, qSub_int, qMul_int, qConvI_int, qLenL_sl, qLenL_hsl, qLenS_str, foldO, min2_int, max2_int, qSame_refl, Nat.zero_add, List.getElem?_cons_zero, List.getElem?_cons_succ, List.nil_append, List.cons_append, List.append_nil, one_bool, one_int, one_str, one_nilp, one_ptr, one_sl, one_hsl, one_map, one_fn, List.length_cons, List.length_nil, List.set_cons_zero, List.set_cons_succ, Nat.reduceLT, Nat.reduceAdd, qG_un, bx1, bx2]
  generalize (H0.push (.cells [.int .i64 kind, .str s, .sl (strRows ns) t1, .sl rows t2])).nx = p2 at *
  generalize (H0.push (.cells [.int .i64 kind, .str s, .sl (strRows ns) t1, .sl rows t2])).push (.cells [.int .i64 kind', .str s', .sl (strRows ns') u1, .sl rows' u2]) = H1 at *
  generalize H0.nx = p1 at *
  clear g1' bx1 bx2
  have A0 := fun k => ld1 (R := Prop) g1 0 _ rfl k
  have A1 := fun k => ld1 (R := Prop) g1 1 _ rfl k
  have A2 := fun k => ld1 (R := Prop) g1 2 _ rfl k
  have A3 := fun k => ld1 (R := Prop) g1 3 _ rfl k
  have B0 := fun k => ld1 (R := Prop) g2 0 _ rfl k
  have B1 := fun k => ld1 (R := Prop) g2 1 _ rfl k
  have B2 := fun k => ld1 (R := Prop) g2 2 _ rfl k
  have B3 := fun k => ld1 (R := Prop) g2 3 _ rfl k
  have ln := strRows_len ns
  have ln' := strRows_len ns'
  have lr := hE.len
  have lr' := hE'.len
  have hd : ∀ a b : Nat, (((a : Nat) : Int) == ((b : Nat) : Int)) = decide (a = b) := fun a b => by rw [Bool.eq_iff_iff]; simp; omega
  have hk : (kind == kind') = decide (kind = kind') := by rw [Bool.eq_iff_iff]; simp
  by_cases k1 : kind = kind'
  case neg =>
    rw [decide_eq_false k1] at hk
    simp -implicitDefEqProofs only [r23_1, r23_2, opn_z, opn_s, sel_z, sel_s, qCd_eq, qIf_true, qIf_false, qFn_eq, qBl_eq, qO_some, qRes_val, qHp_some, qPick_true, qPick_false, qG_tt, qG_ff, qG_tf, qG_ft, cellsK_some, qLd_vptr, qLdA_vptr, qFa_ptr, qFa_vptr, qNc_ptr, qNc_vptr, qNc_fn, qNot_bool, qExt_tup, qCallV_fn, qLss_int, qLeq_int, qGtr_int, qGeq_int, qEql_int, qNeq_int, qAdd_int, qSub_int, qMul_int, qConvI_int, qLenL_sl, qLenL_hsl, qLenS_str, foldO, min2_int, max2_int, qSame_refl, Nat.zero_add, List.getElem?_cons_zero, List.getElem?_cons_succ, List.nil_append, List.cons_append, List.append_nil, one_bool, one_int, one_str, one_nilp, one_ptr, one_sl, one_hsl, one_map, one_fn, List.length_cons, List.length_nil, List.set_cons_zero, List.set_cons_succ, Nat.reduceLT, Nat.reduceAdd, qG_un, A0, B0, hk, Bool.not_false, AV.kill]
    simp [sameF, k1]
  rw [decide_eq_true k1] at hk
  by_cases k2 : s = s'
  case neg =>
    have hs := decide_eq_false k2
    simp -implicitDefEqProofs only [r23_1, r23_2, opn_z, opn_s, sel_z, sel_s, qCd_eq, qIf_true, qIf_false, qFn_eq, qBl_eq, qO_some, qRes_val, qHp_some, qPick_true, qPick_false, qG_tt, qG_ff, qG_tf, qG_ft, cellsK_some, qLd_vptr, qLdA_vptr, qFa_ptr, qFa_vptr, qNc_ptr, qNc_vptr, qNc_fn, qNot_bool, qExt_tup, qCallV_fn, qLss_int, qLeq_int, qGtr_int, qGeq_int, qEql_int, qNeq_int, qAdd_int, qSub_int, qMul_int, qConvI_int, qLenL_sl, qLenL_hsl, qLenS_str, foldO, min2_int, max2_int, qSame_refl, Nat.zero_add, List.getElem?_cons_zero, List.getElem?_cons_succ, List.nil_append, List.cons_append, List.append_nil, one_bool, one_int, one_str, one_nilp, one_ptr, one_sl, one_hsl, one_map, one_fn, List.length_cons, List.length_nil, List.set_cons_zero, List.set_cons_succ, Nat.reduceLT, Nat.reduceAdd, qG_un, A0, B0, A1, B1, hk, Bool.not_true, Bool.not_false, qNeq_str, hs, AV.kill]
    simp [sameF, k2]
  have hs := decide_eq_true k2
  by_cases k3 : ns.length = ns'.length
  case neg =>
    have hn : ((ns.length : Int) == (ns'.length : Int)) = false := by rw [hd, decide_eq_false k3]
    simp -implicitDefEqProofs only [r23_1, r23_2, opn_z, opn_s, sel_z, sel_s, qCd_eq, qIf_true, qIf_false, qFn_eq, qBl_eq, qO_some, qRes_val, qHp_some, qPick_true, qPick_false, qG_tt, qG_ff, qG_tf, qG_ft, cellsK_some, qLd_vptr, qLdA_vptr, qFa_ptr, qFa_vptr, qNc_ptr, qNc_vptr, qNc_fn, qNot_bool, qExt_tup, qCallV_fn, qLss_int, qLeq_int, qGtr_int, qGeq_int, qEql_int, qNeq_int, qAdd_int, qSub_int, qMul_int, qConvI_int, qLenL_sl, qLenL_hsl, qLenS_str, foldO, min2_int, max2_int, qSame_refl, Nat.zero_add, List.getElem?_cons_zero, List.getElem?_cons_succ, List.nil_append, List.cons_append, List.append_nil, one_bool, one_int, one_str, one_nilp, one_ptr, one_sl, one_hsl, one_map, one_fn, List.length_cons, List.length_nil, List.set_cons_zero, List.set_cons_succ, Nat.reduceLT, Nat.reduceAdd, qG_un, A0, B0, A1, B1, A2, B2, hk, Bool.not_true, Bool.not_false, qNeq_str, hs, ln, ln', hn, AV.kill]
    have : ns ≠ ns' := fun e => k3 (by rw [e])
    simp [sameF, this]
  have hn : ((ns.length : Int) == (ns'.length : Int)) = true := by rw [hd, decide_eq_true k3]
  by_cases k4 : l.length = l'.length
  case neg =>
    have hll : (((rows.length : Nat) : Int) == ((rows'.length : Nat) : Int)) = false := by rw [lr, lr', hd, decide_eq_false k4]
    simp -implicitDefEqProofs only [r23_1, r23_2, opn_z, opn_s, sel_z, sel_s, qCd_eq, qIf_true, qIf_false, qFn_eq, qBl_eq, qO_some, qRes_val, qHp_some, qPick_true, qPick_false, qG_tt, qG_ff, qG_tf, qG_ft, cellsK_some, qLd_vptr, qLdA_vptr, qFa_ptr, qFa_vptr, qNc_ptr, qNc_vptr, qNc_fn, qNot_bool, qExt_tup, qCallV_fn, qLss_int, qLeq_int, qGtr_int, qGeq_int, qEql_int, qNeq_int, qAdd_int, qSub_int, qMul_int, qConvI_int, qLenL_sl, qLenL_hsl, qLenS_str, foldO, min2_int, max2_int, qSame_refl, Nat.zero_add, List.getElem?_cons_zero, List.getElem?_cons_succ, List.nil_append, List.cons_append, List.append_nil, one_bool, one_int, one_str, one_nilp, one_ptr, one_sl, one_hsl, one_map, one_fn, List.length_cons, List.length_nil, List.set_cons_zero, List.set_cons_succ, Nat.reduceLT, Nat.reduceAdd, qG_un, A0, B0, A1, B1, A2, B2, A3, B3, hk, Bool.not_true, Bool.not_false, qNeq_str, hs, ln, ln', hn, hll, AV.kill]
    simp [sameF, samesF_len k4]
  have hll : (((rows.length : Nat) : Int) == ((rows'.length : Nat) : Int)) = true := by rw [lr, lr', hd, decide_eq_true k4]
  simp -implicitDefEqProofs only [r23_1, r23_3, opn_z, opn_s, sel_z, sel_s, qCd_eq, qIf_true, qIf_false, qFn_eq, qBl_eq, qO_some, qRes_val, qHp_some, qPick_true, qPick_false, qG_tt, qG_ff, qG_tf, qG_ft, cellsK_some, qLd_vptr, qLdA_vptr, qFa_ptr, qFa_vptr, qNc_ptr, qNc_vptr, qNc_fn, qNot_bool, qExt_tup, qCallV_fn, qLss_int, qLeq_int, qGtr_int, qGeq_int, qEql_int, qNeq_int, qAdd_int, qSub_int, qMul_int, qConvI_int, qLenL_sl, qLenL_hsl, qLenS_str, foldO, min2_int, max2_int, qSame_refl, Nat.zero_add, List.getElem?_cons_zero, List.getElem?_cons_succ, List.nil_append, List.cons_append, List.append_nil, one_bool, one_int, one_str, one_nilp, one_ptr, one_sl, one_hsl, one_map, one_fn, List.length_cons, List.length_nil, List.set_cons_zero, List.set_cons_succ, Nat.reduceLT, Nat.reduceAdd, qG_un, A0, B0, A1, B1, A2, B2, A3, B3, hk, Bool.not_true, Bool.not_false, qNeq_str, hs, hn, hll, ln, ln']
  refine loop_inv (fun m fr H' => ∃ (i : Nat) (x0 x1 x4 x5 x6 x7 x8 x38 x43 x53 x56 x57 x58 x59 x70 : AV), m = ns.length - i ∧ i ≤ ns.length ∧ fr = [x0, x1, .ptr p1 0, .ptr p2 0, x4, x5, x6, x7, x8, x38, .sl (strRows ns) t1, .int .i64 (ns.length : Int), .int .i64 (i : Int), x43, x53, x56, x57, x58, x59, x70] ∧ H1 = H' ∧ ns.take i = ns'.take i) ?_ (m := ns.length) ?_
  case refine_2 => exact ⟨0, _, _, _, _, _, _, _, _, _, _, _, _, _, _, _, rfl, by omega, rfl, rfl, rfl⟩
  rintro m fr H' k ⟨i, x0, x1, x4, x5, x6, x7, x8, x38, x43, x53, x56, x57, x58, x59, x70, rfl, hi, rfl, rfl, htk⟩ hcont
  rcases Nat.lt_or_ge i ns.length with h | h
  · have h' : (i : Int) < (ns.length : Int) := by omega
    have hi2 : i < ns'.length := by omega
    have ia := fun k => qIa_strs (tk := t1) (show ns[i]? = some ns[i] from List.getElem?_eq_getElem h) k
    have ib := fun k => qIa_strs (tk := u1) (show ns'[i]? = some ns'[i] from List.getElem?_eq_getElem hi2) k
    have l1 := fun (s : Str) (H : AH) (k : AV → Prop) => (show qLd (.vptr [.str s] 0) H k = k (.str s) from rfl)
    have hw := wrap_up i (by omega)
    by_cases hq : ns[i] = ns'[i]
    · have hq' := decide_eq_true hq
      simp -implicitDefEqProofs only [l23_10, r23_4, r23_5, r23_6, r23_8, opn_z, opn_s, sel_z, sel_s, qCd_eq, qIf_true, qIf_false, qFn_eq, qBl_eq, qO_some, qRes_val, qHp_some, qPick_true, qPick_false, qG_tt, qG_ff, qG_tf, qG_ft, cellsK_some, qLd_vptr, qLdA_vptr, qFa_ptr, qFa_vptr, qNc_ptr, qNc_vptr, qNc_fn, qNot_bool, qExt_tup, qCallV_fn, qLss_int, qLeq_int, qGtr_int, qGeq_int, qEql_int, qNeq_int, qAdd_int, qSub_int, qMul_int, qConvI_int, qLenL_sl, qLenL_hsl, qLenS_str, foldO, min2_int, max2_int, qSame_refl, Nat.zero_add, List.getElem?_cons_zero, List.getElem?_cons_succ, List.nil_append, List.cons_append, List.append_nil, one_bool, one_int, one_str, one_nilp, one_ptr, one_sl, one_hsl, one_map, one_fn, List.length_cons, List.length_nil, List.set_cons_zero, List.set_cons_succ, Nat.reduceLT, Nat.reduceAdd, qG_un, h', decide_true, ia, ib, l1, B2, qNeq_str, hq', Bool.not_true, hw]
      refine hcont (ns.length - (i + 1)) _ _ (by omega) ⟨i + 1, _, _, _, _, _, _, _, _, _, _, _, _, _, _, _, rfl, h, rfl, rfl, ?_⟩
      rw [take_succ' (List.getElem?_eq_getElem h), take_succ' (List.getElem?_eq_getElem hi2), htk, hq]
    · have hq' := decide_eq_false hq
      simp -implicitDefEqProofs only [l23_10, r23_4, r23_5, r23_6, r23_7, opn_z, opn_s, sel_z, sel_s, qCd_eq, qIf_true, qIf_false, qFn_eq, qBl_eq, qO_some, qRes_val, qHp_some, qPick_true, qPick_false, qG_tt, qG_ff, qG_tf, qG_ft, cellsK_some, qLd_vptr, qLdA_vptr, qFa_ptr, qFa_vptr, qNc_ptr, qNc_vptr, qNc_fn, qNot_bool, qExt_tup, qCallV_fn, qLss_int, qLeq_int, qGtr_int, qGeq_int, qEql_int, qNeq_int, qAdd_int, qSub_int, qMul_int, qConvI_int, qLenL_sl, qLenL_hsl, qLenS_str, foldO, min2_int, max2_int, qSame_refl, Nat.zero_add, List.getElem?_cons_zero, List.getElem?_cons_succ, List.nil_append, List.cons_append, List.append_nil, one_bool, one_int, one_str, one_nilp, one_ptr, one_sl, one_hsl, one_map, one_fn, List.length_cons, List.length_nil, List.set_cons_zero, List.set_cons_succ, Nat.reduceLT, Nat.reduceAdd, qG_un, h', decide_true, ia, ib, l1, B2, qNeq_str, hq', Bool.not_false, AV.kill]
      have : ns ≠ ns' := by
        intro e
        subst e
        exact hq rfl
      simp [sameF, this]
  have h' : ¬ (i : Int) < (ns.length : Int) := by omega
  have hnn : ns = ns' := by
    rw [List.take_of_length_le h, List.take_of_length_le (by omega)] at htk
    exact htk
  simp -implicitDefEqProofs only [l23_10, r23_4, r23_9, opn_z, opn_s, sel_z, sel_s, qCd_eq, qIf_true, qIf_false, qFn_eq, qBl_eq, qO_some, qRes_val, qHp_some, qPick_true, qPick_false, qG_tt, qG_ff, qG_tf, qG_ft, cellsK_some, qLd_vptr, qLdA_vptr, qFa_ptr, qFa_vptr, qNc_ptr, qNc_vptr, qNc_fn, qNot_bool, qExt_tup, qCallV_fn, qLss_int, qLeq_int, qGtr_int, qGeq_int, qEql_int, qNeq_int, qAdd_int, qSub_int, qMul_int, qConvI_int, qLenL_sl, qLenL_hsl, qLenS_str, foldO, min2_int, max2_int, qSame_refl, Nat.zero_add, List.getElem?_cons_zero, List.getElem?_cons_succ, List.nil_append, List.cons_append, List.append_nil, one_bool, one_int, one_str, one_nilp, one_ptr, one_sl, one_hsl, one_map, one_fn, List.length_cons, List.length_nil, List.set_cons_zero, List.set_cons_succ, Nat.reduceLT, Nat.reduceAdd, qG_un, h', decide_false, A3, lr]
  clear hcont
  refine loop_inv (fun m fr H' => ∃ (i : Nat) (x0 x1 x4 x5 x6 x7 x8 x38 x40 x41 x42 x43 x53 x59 x70 : AV), m = l.length - i ∧ i ≤ l.length ∧ fr = [x0, x1, .ptr p1 0, .ptr p2 0, x4, x5, x6, x7, x8, x38, x40, x41, x42, x43, x53, .sl rows t2, .int .i64 (l.length : Int), .int .i64 (i : Int), x59, x70] ∧ Kp H1 H' (fun _ => False) ∧ (∀ (j : Nat) (h : j < l.length) (h' : j < l'.length), j < i → sameF l[j] l'[j] = true)) ?_ (m := l.length) ?_
  case refine_2 => exact ⟨0, _, _, _, _, _, _, _, _, _, _, _, _, _, _, _, rfl, by omega, rfl, .refl _, fun j _ _ h => by omega⟩
  rintro m fr H' k ⟨j, x0, x1, x4, x5, x6, x7, x8, x38, x40, x41, x42, x43, x53, x59, x70, rfl, hj, rfl, kp, hall⟩ hcont
  haveI := kp.fn
  rcases Nat.lt_or_ge j l.length with hlt | hge
  · have h2' : (j : Int) < (l.length : Int) := by omega
    have hj2 : j < l'.length := by omega
    obtain ⟨r, e1, e2⟩ := hE.get (List.getElem?_eq_getElem hlt)
    obtain ⟨q, f1, f2⟩ := hE'.get (List.getElem?_eq_getElem hj2)
    have ia := fun k => qIa_rows (R := Prop) (tk := t2) e1 e2.four k
    have ib := fun k => qIa_rows (R := Prop) (tk := u2) f1 f2.four k
    have la := fun (H : AH) k => (show qLdA (R := Prop) 4 (.vptr r 0) H k = k (.agg r) by rw [qLdA_vptr, slice_whole r 4 e2.four, qO_some])
    have lb := fun (H : AH) k => (show qLdA (R := Prop) 4 (.vptr q 0) H k = k (.agg q) by rw [qLdA_vptr, slice_whole q 4 f2.four, qO_some])
    obtain ⟨bb, Ha, Hb, x1, x2, x3, x4, x5, x6⟩ := boxK (R := Prop) (Hs := H1) (H := H') kp z25 r (n := 4) rfl e2.four e2.ones
    haveI := x5.fn
    have gb := (x5.keep p2 (lt_i g2) (fun h => h)).trans g2
    have Bb := fun k => ld1 (R := Prop) gb 3 _ rfl k
    have ldq := fun k => qLdA_whole (R := Prop) x3 e2.four k
    have hw := wrap_up j (by omega)
    have hc := fun H => ih l[j] (List.getElem_mem hlt) l'[j] r q e2 f2 (vszs_mem z5 _ (List.getElem_mem hlt)) (vszs_mem y5 _ (List.getElem_mem hj2)) H
    cases hs2 : sameF l[j] l'[j] with
    | true =>
      rw [hs2] at hc
      simp -implicitDefEqProofs only [l23_5, r23_10, r23_11, r23_12, r23_14, opn_z, opn_s, sel_z, sel_s, qCd_eq, qIf_true, qIf_false, qFn_eq, qBl_eq, qO_some, qRes_val, qHp_some, qPick_true, qPick_false, qG_tt, qG_ff, qG_tf, qG_ft, cellsK_some, qLd_vptr, qLdA_vptr, qFa_ptr, qFa_vptr, qNc_ptr, qNc_vptr, qNc_fn, qNot_bool, qExt_tup, qCallV_fn, qLss_int, qLeq_int, qGtr_int, qGeq_int, qEql_int, qNeq_int, qAdd_int, qSub_int, qMul_int, qConvI_int, qLenL_sl, qLenL_hsl, qLenS_str, foldO, min2_int, max2_int, qSame_refl, Nat.zero_add, List.getElem?_cons_zero, List.getElem?_cons_succ, List.nil_append, List.cons_append, List.append_nil, one_bool, one_int, one_str, one_nilp, one_ptr, one_sl, one_hsl, one_map, one_fn, List.length_cons, List.length_nil, List.set_cons_zero, List.set_cons_succ, Nat.reduceLT, Nat.reduceAdd, qG_un, h2', decide_true, ia, la, x1, x2, ldq, Bb, ib, lb, hc, Bool.not_true, hw]
      refine hcont (l.length - (j + 1)) _ _ (by omega) ⟨j + 1, _, _, _, _, _, _, _, _, _, _, _, _, _, _, _, rfl, hlt, rfl, x5, fun i hi hi' hij => ?_⟩
      rcases Nat.lt_or_ge i j with h | h
      · exact hall i hi hi' h
      · obtain rfl : i = j := by omega
        exact hs2
    | false =>
      rw [hs2] at hc
      simp -implicitDefEqProofs only [l23_5, r23_10, r23_11, r23_12, r23_13, opn_z, opn_s, sel_z, sel_s, qCd_eq, qIf_true, qIf_false, qFn_eq, qBl_eq, qO_some, qRes_val, qHp_some, qPick_true, qPick_false, qG_tt, qG_ff, qG_tf, qG_ft, cellsK_some, qLd_vptr, qLdA_vptr, qFa_ptr, qFa_vptr, qNc_ptr, qNc_vptr, qNc_fn, qNot_bool, qExt_tup, qCallV_fn, qLss_int, qLeq_int, qGtr_int, qGeq_int, qEql_int, qNeq_int, qAdd_int, qSub_int, qMul_int, qConvI_int, qLenL_sl, qLenL_hsl, qLenS_str, foldO, min2_int, max2_int, qSame_refl, Nat.zero_add, List.getElem?_cons_zero, List.getElem?_cons_succ, List.nil_append, List.cons_append, List.append_nil, one_bool, one_int, one_str, one_nilp, one_ptr, one_sl, one_hsl, one_map, one_fn, List.length_cons, List.length_nil, List.set_cons_zero, List.set_cons_succ, Nat.reduceLT, Nat.reduceAdd, qG_un, h2', decide_true, ia, la, x1, x2, ldq, Bb, ib, lb, hc, Bool.not_false, AV.kill]
      simp [sameF, samesF_no k4 hlt hj2 hs2]
  · have h2' : ¬ (j : Int) < (l.length : Int) := by omega
    simp -implicitDefEqProofs only [l23_5, r23_10, r23_15, opn_z, opn_s, sel_z, sel_s, qCd_eq, qIf_true, qIf_false, qFn_eq, qBl_eq, qO_some, qRes_val, qHp_some, qPick_true, qPick_false, qG_tt, qG_ff, qG_tf, qG_ft, cellsK_some, qLd_vptr, qLdA_vptr, qFa_ptr, qFa_vptr, qNc_ptr, qNc_vptr, qNc_fn, qNot_bool, qExt_tup, qCallV_fn, qLss_int, qLeq_int, qGtr_int, qGeq_int, qEql_int, qNeq_int, qAdd_int, qSub_int, qMul_int, qConvI_int, qLenL_sl, qLenL_hsl, qLenS_str, foldO, min2_int, max2_int, qSame_refl, Nat.zero_add, List.getElem?_cons_zero, List.getElem?_cons_succ, List.nil_append, List.cons_append, List.append_nil, one_bool, one_int, one_str, one_nilp, one_ptr, one_sl, one_hsl, one_map, one_fn, List.length_cons, List.length_nil, List.set_cons_zero, List.set_cons_succ, Nat.reduceLT, Nat.reduceAdd, qG_un, h2', decide_false, AV.kill]
    have : l = l' := by
      apply List.ext_getElem k4
      intro i hi hi'
      exact (sameF_eq _ _).1 (hall i hi hi' (by omega))
    have h3 := (sameF_eq (.mk kind s ns l) (.mk kind' s' ns' l')).2 (by rw [k1, k2, hnn, this])
    rw [h3]

mutual
theorem same_all : ∀ v, SameOk v
  | .mk k s ns l => same_node (sames_all l)
theorem sames_all : ∀ (l : List Val), ∀ v ∈ l, SameOk v
  | [], v, hv => by cases hv
  | a :: l, v, hv => by
    rcases List.mem_cons.1 hv with h | hv
    · rw [h]; exact same_all a
    · exact sames_all l v hv
end
theorem ep23 {v w : Val} {r q : List AV} (hv : EV v r) (hw : EV w q) (h1 : vsz v) (h2 : vsz w) (H : AH) : EP 23 [.agg r, .agg q] H = some (.val (.bool (sameF v w)) H) := same_all v w r q hv hw h1 h2 H
end T
set_option linter.unusedVariables false
set_option linter.unusedSimpArgs false
set_option maxRecDepth 10000
namespace T
open Go Go.Aes Go.Proofs

/-! ### texts of unlike values are unlike -/
def leaves : List Val := [.mk 1 [] [] []] ++ bools.map (fun s => .mk 2 s [] []) ++ whole.map (fun s => .mk 3 s [] []) ++ broken.map (fun s => .mk 4 s [] []) ++ texts.map (fun s => .mk 5 s [] [])
mutual
def Gd : Val → Prop
  | .mk k s ns l => (Val.mk k s ns l ∈ leaves) ∨ (k = 7 ∧ s = [] ∧ ns = [] ∧ l.length ≤ 3 ∧ Gds l) ∨ (k = 8 ∧ s = [] ∧ ns = nms l.length ∧ l.length ≤ 3 ∧ Gds l)
def Gds : List Val → Prop
  | [] => True
  | v :: l => Gd v ∧ Gds l
end
theorem Gds_of : ∀ {l : List Val}, (∀ v ∈ l, Gd v) → Gds l
  | [], _ => trivial
  | a :: l, h => ⟨h a (by simp), Gds_of fun v hv => h v (by simp [hv])⟩
theorem Gds_mem : ∀ {l : List Val}, Gds l → ∀ v ∈ l, Gd v
  | [], _, v, hv => by cases hv
  | a :: l, ⟨h1, h2⟩, v, hv => by
    rcases List.mem_cons.1 hv with rfl | hv
    · exact h1
    · exact Gds_mem h2 v hv

def stopc (c : UInt8) : Bool := c == 44 || c == 93 || c == 125
def Stop (s : Str) : Prop := ∀ c r, s = c :: r → stopc c = true
def clash : Str → Str → Bool
  | [], [] => false
  | [], c :: _ => !stopc c
  | c :: _, [] => !stopc c
  | a :: l, b :: r => if a = b then clash l r else true
theorem clash_ne : ∀ {a b : Str}, clash a b = true → ∀ {s t : Str}, Stop s → Stop t → a ++ s ≠ b ++ t
  | [], [], h, s, t, _, _ => by cases h
  | [], c :: r, h, s, t, hs, ht => by
    intro e
    have := hs c (r ++ t) e
    simp [clash, this] at h
  | c :: r, [], h, s, t, hs, ht => by
    intro e
    have := ht c (r ++ s) e.symm
    simp [clash, this] at h
  | a :: l, b :: r, h, s, t, hs, ht => by
    intro e
    simp only [List.cons_append, List.cons.injEq] at e
    simp only [clash, if_pos e.1] at h
    exact clash_ne h hs ht e.2
theorem leaves_clash : (leaves.all fun v => leaves.all fun w => sameF v w || clash (txt v) (txt w)) = true := by kernel_rfl
def headOk (s : Str) : Bool := match s with
  | c :: _ => c != 91 && c != 123 && !stopc c
  | [] => false
theorem leaves_head : (leaves.all fun v => headOk (txt v) && (txt v).length.ble 20) = true := by kernel_rfl
theorem leaf_head {v : Val} (h : v ∈ leaves) : ∃ c r, txt v = c :: r ∧ c ≠ 91 ∧ c ≠ 123 ∧ stopc c = false := by
  have := List.all_eq_true.1 leaves_head v h
  simp only [Bool.and_eq_true] at this
  cases ht : txt v with
  | nil => rw [ht] at this; cases this.1
  | cons c r =>
    rw [ht] at this
    have h1 := this.1
    simp only [headOk, Bool.and_eq_true, bne_iff_ne, ne_eq, Bool.not_eq_true'] at h1
    exact ⟨c, r, rfl, h1.1.1, h1.1.2, h1.2⟩
theorem txt7 (s : Str) (ns : List Str) (l : List Val) : txt (.mk 7 s ns l) = 91 :: (txtK false true ns l ++ [93]) := by simp [txt]
theorem txt8 (s : Str) (ns : List Str) (l : List Val) : txt (.mk 8 s ns l) = 123 :: (txtK true true ns l ++ [125]) := by simp [txt]
theorem Gd_head {v : Val} (h : Gd v) : ∃ c r, txt v = c :: r ∧ stopc c = false := by
  cases v with
  | mk k s ns l =>
  rcases h with h | ⟨rfl, _⟩ | ⟨rfl, _⟩
  · obtain ⟨c, r, h1, _, _, h2⟩ := leaf_head h
    exact ⟨c, r, h1, h2⟩
  · exact ⟨_, _, txt7 _ _ _, rfl⟩
  · exact ⟨_, _, txt8 _ _ _, rfl⟩

theorem name_txt (m : Nat) (h : m < 3) : quoteF (110 :: decs (m + 1)) = [34, 110, UInt8.ofNat (49 + m), 34] := by
  match m, h with
  | 0, _ => show quoteF (110 :: decs 1) = [34, 110, UInt8.ofNat 49, 34]; kernel_rfl
  | 1, _ => show quoteF (110 :: decs 2) = [34, 110, UInt8.ofNat 50, 34]; kernel_rfl
  | 2, _ => show quoteF (110 :: decs 3) = [34, 110, UInt8.ofNat 51, 34]; kernel_rfl
theorem nmsB_tail (ob : Bool) (m : Nat) : (nmsB ob (m + 1)).tail = nmsB ob m := by cases ob <;> rfl
/-- what stands ahead of an element -/
def ahead (ob first : Bool) (m : Nat) : Str := (bif first then [] else [44]) ++ (bif ob then quoteF (110 :: decs (m + 1)) ++ [58] else [])
theorem txtK_cons (ob first : Bool) (v : Val) (l : List Val) : txtK ob first (nmsB ob (v :: l).length) (v :: l) = ahead ob first l.length ++ txt v ++ txtK ob false (nmsB ob l.length) l := by
  simp only [txtK, ahead, List.length_cons, nmsB_tail]
  cases ob <;> rfl
theorem ahead_len (ob first : Bool) (m m' : Nat) (h : m < 3) (h' : m' < 3) : (ahead ob first m).length = (ahead ob first m').length := by
  unfold ahead
  rw [name_txt m h, name_txt m' h']
  cases ob <;> cases first <;> rfl
theorem txtK_nil (ob first : Bool) (ns : List Str) : txtK ob first ns [] = [] := by simp [txtK]
theorem stop_tail (ob : Bool) (l : List Val) {c : UInt8} (hc : stopc c = true) (s : Str) : Stop (txtK ob false (nmsB ob l.length) l ++ c :: s) := by
  intro d r e
  cases l with
  | nil => rw [txtK_nil] at e; injection e with e _; rw [← e]; exact hc
  | cons v l =>
    rw [txtK_cons] at e
    simp only [ahead, cond_false, List.append_assoc, List.cons_append, List.nil_append] at e
    injection e with e _
    rw [← e]; rfl
theorem one_head (ob first : Bool) (v : Val) (h : Gd v) (m : Nat) (hm : m < 3) (x : Str) : ∃ c r, ahead ob first m ++ txt v ++ x = c :: r ∧ (first = true → stopc c = false) ∧ (first = false → c = 44) := by
  unfold ahead
  rw [name_txt m hm]
  obtain ⟨c, r, h1, h2⟩ := Gd_head h
  rw [h1]
  cases ob <;> cases first <;> simp [h2] <;> rfl

mutual
theorem inj : ∀ v, Gd v → ∀ w, Gd w → ∀ s t, Stop s → Stop t → txt v ++ s = txt w ++ t → v = w ∧ s = t
  | .mk k s ns l, hv, .mk k' s' ns' l', hw, u, t, hs, ht, e => by
    have leafNo : ∀ {v : Val} {c : UInt8} {x y z : Str}, v ∈ leaves → c = 91 ∨ c = 123 → txt v ++ x ≠ c :: y ++ z := by
      intro v c x y z hv hc e
      obtain ⟨d, r, h1, h2, h3, _⟩ := leaf_head hv
      rw [h1] at e
      injection e with e _
      subst e
      rcases hc with hc | hc <;> contradiction
    rcases hv with hv | ⟨rfl, rfl, rfl, h3, hl⟩ | ⟨rfl, rfl, rfl, h3, hl⟩
    · rcases hw with hw | ⟨rfl, rfl, rfl, h3', hl'⟩ | ⟨rfl, rfl, rfl, h3', hl'⟩
      · have hc := List.all_eq_true.1 (List.all_eq_true.1 leaves_clash _ hv) _ hw
        rw [Bool.or_eq_true] at hc
        rcases hc with hc | hc
        · have := (sameF_eq _ _).1 hc
          rw [this] at e ⊢
          exact ⟨rfl, List.append_cancel_left e⟩
        · exact absurd e (clash_ne hc hs ht)
      · rw [txt7] at e; exact absurd e (leafNo hv (.inl rfl))
      · rw [txt8] at e; exact absurd e (leafNo hv (.inr rfl))
    · rcases hw with hw | ⟨rfl, rfl, rfl, h3', hl'⟩ | ⟨rfl, rfl, rfl, h3', hl'⟩
      · rw [txt7] at e; exact absurd e.symm (leafNo hw (.inl rfl))
      · rw [txt7, txt7] at e
        simp only [List.cons_append, List.append_assoc, List.nil_append, List.cons.injEq, true_and] at e
        obtain ⟨h1, h2⟩ := injs false l hl l' hl' h3 h3' true 93 u t (.inl rfl) e
        rw [h1]; exact ⟨rfl, h2⟩
      · rw [txt7, txt8] at e
        simp at e
    · rcases hw with hw | ⟨rfl, rfl, rfl, h3', hl'⟩ | ⟨rfl, rfl, rfl, h3', hl'⟩
      · rw [txt8] at e; exact absurd e.symm (leafNo hw (.inr rfl))
      · rw [txt7, txt8] at e
        simp at e
      · rw [txt8, txt8] at e
        simp only [List.cons_append, List.append_assoc, List.nil_append, List.cons.injEq, true_and] at e
        obtain ⟨h1, h2⟩ := injs true l hl l' hl' h3 h3' true 125 u t (.inr rfl) e
        rw [h1]; exact ⟨rfl, h2⟩
theorem injs (ob : Bool) : ∀ l, Gds l → ∀ l', Gds l' → l.length ≤ 3 → l'.length ≤ 3 → ∀ (f : Bool) (c : UInt8) (s t : Str), (c = 93 ∨ c = 125) → txtK ob f (nmsB ob l.length) l ++ c :: s = txtK ob f (nmsB ob l'.length) l' ++ c :: t → l = l' ∧ s = t
  | [], _, [], _, _, _, f, c, s, t, hc, e => by
    simp only [txtK_nil, List.nil_append, List.cons.injEq, true_and] at e
    exact ⟨rfl, e⟩
  | [], _, w :: l', hw, _, h3, f, c, s, t, hc, e => by
    simp only [List.length_cons] at h3
    rw [txtK_nil, txtK_cons, List.append_assoc] at e
    obtain ⟨d, r, h1, h2, h4⟩ := one_head ob f w hw.1 l'.length (by omega) (txtK ob false (nmsB ob l'.length) l' ++ c :: t)
    rw [h1] at e
    injection e with e _
    subst e
    cases f with
    | true =>
      have := h2 rfl
      rcases hc with rfl | rfl <;> cases this
    | false =>
      have := h4 rfl
      rcases hc with rfl | rfl <;> cases this
  | v :: l, hv, [], _, h3, _, f, c, s, t, hc, e => by
    simp only [List.length_cons] at h3
    rw [txtK_nil, txtK_cons, List.append_assoc] at e
    obtain ⟨d, r, h1, h2, h4⟩ := one_head ob f v hv.1 l.length (by omega) (txtK ob false (nmsB ob l.length) l ++ c :: s)
    rw [h1] at e
    injection e with e _
    subst e
    cases f with
    | true =>
      have := h2 rfl
      rcases hc with rfl | rfl <;> cases this
    | false =>
      have := h4 rfl
      rcases hc with rfl | rfl <;> cases this
  | v :: l, hv, w :: l', hw, h3, h3', f, c, s, t, hc, e => by
    simp only [List.length_cons] at h3 h3'
    rw [txtK_cons, txtK_cons] at e
    simp only [List.append_assoc] at e
    have hc' : stopc c = true := by rcases hc with rfl | rfl <;> rfl
    have e2 := (List.append_inj e (ahead_len ob f _ _ (by omega) (by omega))).2
    obtain ⟨h1, h2⟩ := inj v hv.1 w hw.1 _ _ (stop_tail ob l hc' s) (stop_tail ob l' hc' t) e2
    obtain ⟨h4, h5⟩ := injs ob l hv.2 l' hw.2 (by omega) (by omega) false c s t hc h2
    exact ⟨by rw [h1, h4], h5⟩
end

/-! what the numbers make -/
theorem leaf_mem (c : Nat) : leaf c ∈ leaves := by
  have f0 : ∀ a : Nat, a % 2 < 2 := fun a => Nat.mod_lt _ (by omega)
  have f1 : ∀ a : Nat, a % 5 < 5 := fun a => Nat.mod_lt _ (by omega)
  have f2 : ∀ a : Nat, a % 4 < 4 := fun a => Nat.mod_lt _ (by omega)
  have g : ∀ (l : List Str) (n : Nat), n < l.length → l.getD n [] ∈ l := by
    intro l n h
    rw [List.getD_eq_getElem?_getD, List.getElem?_eq_getElem h]
    exact List.getElem_mem h
  unfold leaf leaves
  simp only [List.mem_append, List.mem_map, List.mem_singleton]
  split
  · exact .inl (.inl (.inl (.inr ⟨_, g bools _ (f0 _), rfl⟩)))
  split
  · exact .inl (.inl (.inr ⟨_, g whole _ (f1 _), rfl⟩))
  split
  · exact .inl (.inr ⟨_, g broken _ (f2 _), rfl⟩)
  split
  · exact .inr ⟨_, g texts _ (f1 _), rfl⟩
  · exact .inl (.inl (.inl (.inl rfl)))
theorem leaves_okT : (leaves.all fun v => match v with | .mk k s ns l => decide (s.length < 1000000000) && (ns.isEmpty && l.isEmpty) && decide (k ≠ 8)) = true := by kernel_rfl
theorem leaf_okT {v : Val} (h : v ∈ leaves) : okT v ∧ (txt v).length ≤ 20 := by
  have h1 := List.all_eq_true.1 leaves_okT v h
  have h2 := List.all_eq_true.1 leaves_head v h
  cases v with
  | mk k s ns l =>
  simp only [Bool.and_eq_true, decide_eq_true_eq, List.isEmpty_iff] at h1
  obtain ⟨⟨a1, rfl, rfl⟩, a2⟩ := h1
  rw [Bool.and_eq_true] at h2
  exact ⟨⟨a1, fun n hn => (by cases hn), fun e => absurd e a2, by simp, trivial⟩, by simpa using h2.2⟩
theorem okTs_of : ∀ {l : List Val}, (∀ v ∈ l, okT v) → okTs l
  | [], _ => trivial
  | a :: l, h => ⟨h a (by simp), okTs_of fun v hv => h v (by simp [hv])⟩
theorem txtK_len (ob : Bool) (B : Nat) : ∀ (l : List Val) (f : Bool), l.length ≤ 3 → (∀ v ∈ l, (txt v).length ≤ B) → (txtK ob f (nmsB ob l.length) l).length ≤ l.length * (B + 6)
  | [], f, _, _ => by rw [txtK_nil]; simp
  | v :: l, f, h3, h => by
    simp only [List.length_cons] at h3
    rw [txtK_cons]
    have h1 := h v (by simp)
    have h2 := txtK_len ob B l false (by omega) (fun w hw => h w (by simp [hw]))
    have h4 : (ahead ob f l.length).length ≤ 6 := by
      unfold ahead
      rw [name_txt _ (by omega)]
      cases ob <;> cases f <;> simp
    simp only [List.length_append, List.length_cons]
    rw [Nat.add_mul]
    omega
theorem made_good (ch : List Int) : ∀ D i, Gd (made D ch i).1 ∧ okT (made D ch i).1 ∧ (txt (made D ch i).1).length ≤ 20 * 4 ^ D := by
  have hleaf : ∀ c D, Gd (leaf c) ∧ okT (leaf c) ∧ (txt (leaf c)).length ≤ 20 * 4 ^ D := by
    intro c D
    obtain ⟨h1, h2⟩ := leaf_okT (leaf_mem c)
    have h3 : 1 ≤ 4 ^ D := Nat.pos_of_ne_zero (by simp)
    refine ⟨?_, h1, by omega⟩
    have := leaf_mem c
    cases hl : leaf c with
    | mk k s ns l => rw [hl] at this; exact .inl this
  have hnull : null = leaf 4 := rfl
  intro D
  induction D with
  | zero =>
    intro i
    rcases Nat.lt_or_ge i ch.length with h | h
    · rw [made_leaf (List.getElem?_eq_getElem h) (.inr (by omega))]; exact hleaf _ _
    · rw [made_none h, hnull]; exact hleaf 4 _
  | succ d ih =>
    intro i
    rcases Nat.lt_or_ge i ch.length with h | h
    · by_cases hc : chz ch[i] % 7 ≠ 4 ∨ d + 1 ≤ 1
      · rw [made_leaf (List.getElem?_eq_getElem h) hc]; exact hleaf _ _
      · rw [made_tree (List.getElem?_eq_getElem h) (by omega) (by omega)]
        have hm : chz ch[i] / 14 % 4 ≤ 3 := by omega
        have hk := kids_all (f := made d ch) (p := fun v => Gd v ∧ okT v ∧ (txt v).length ≤ 20 * 4 ^ d) (fun j => ih j) (chz ch[i] / 14 % 4) (i + 1)
        have hl := kids_len (made d ch) (chz ch[i] / 14 % 4) (i + 1)
        obtain ⟨n1, n2⟩ := nms_ok _ (Nat.lt_succ_of_le hm)
        have h1 : 1 ≤ 4 ^ d := Nat.pos_of_ne_zero (by simp)
        have hpow : 4 ^ (d + 1) = 4 * 4 ^ d := by rw [Nat.pow_succ]; omega
        simp only [tree]
        generalize (kids (made d ch) (chz ch[i] / 14 % 4) (i + 1)).1 = l at *
        have hK := fun ob => txtK_len ob (20 * 4 ^ d) l true (by omega) (fun v hv => (hk v hv).2.2)
        have hml : l.length * (20 * 4 ^ d + 6) ≤ 3 * (20 * 4 ^ d + 6) := Nat.mul_le_mul_right _ (by omega)
        rcases (by omega : chz ch[i] / 7 % 2 = 0 ∨ chz ch[i] / 7 % 2 = 1) with hb | hb
        · rw [hb]
          refine ⟨.inr (.inl ⟨rfl, rfl, rfl, by omega, Gds_of fun v hv => (hk v hv).1⟩), ⟨by simp, by simp [nmsB], fun e => (by cases e), by omega, okTs_of fun v hv => (hk v hv).2.1⟩, ?_⟩
          have := hK false
          have hz : nmsB (0 == 1) (chz ch[i] / 14 % 4) = nmsB false l.length := by rw [hl]; rfl
          show (txt (.mk 7 [] _ l)).length ≤ _
          rw [txt7, hz]
          simp only [List.length_cons, List.length_append, List.length_nil]
          omega
        · rw [hb]
          refine ⟨.inr (.inr ⟨rfl, rfl, by rw [hl]; rfl, by omega, Gds_of fun v hv => (hk v hv).1⟩), ⟨by simp, fun n hn => ?_, fun _ => ?_, by omega, okTs_of fun v hv => (hk v hv).2.1⟩, ?_⟩
          · have : ∀ m, m < 4 → ((nms m).all fun n => decide (n.length < 1000000000)) = true := by
              intro m h
              match m, h with
              | 0, _ => rfl
              | 1, _ => rfl
              | 2, _ => rfl
              | 3, _ => rfl
            exact of_decide_eq_true (List.all_eq_true.1 (this _ (Nat.lt_succ_of_le hm)) n hn)
          · rw [hl]; exact nms_len _
          · have := hK true
            have hz : nmsB (1 == 1) (chz ch[i] / 14 % 4) = nmsB true l.length := by rw [hl]; rfl
            show (txt (.mk 8 [] _ l)).length ≤ _
            rw [txt8, hz]
            simp only [List.length_cons, List.length_append, List.length_nil]
            omega
    · rw [made_none h, hnull]; exact hleaf 4 _
end T
set_option linter.unusedVariables false
set_option linter.unusedSimpArgs false
set_option maxRecDepth 10000
namespace T
open Go Go.Aes Go.Proofs

/-! ### the law of the values by numbers -/
theorem numbers_walk {ch ch' : List Int} (tk tk' : Tk) : c4 EP [.sl (iRows ch) tk, .sl (iRows ch') tk'] H0 (fun v _ => v = .bool true) := by
  have rl := iRows_len ch
  have rl' := iRows_len ch'
  have e14 := ep14
  rcases Nat.lt_or_ge 40 ch.length with h | h
  · have h' : ((ch.length : Int) > 40) := by omega
    simp -implicitDefEqProofs only [c4, r4_0, r4_1, r4_2, opn_z, opn_s, sel_z, sel_s, qCd_eq, qIf_true, qIf_false, qFn_eq, qBl_eq, qO_some, qRes_val, qHp_some, qPick_true, qPick_false, qG_tt, qG_ff, qG_tf, qG_ft, cellsK_some, qLd_vptr, qLdA_vptr, qFa_ptr, qFa_vptr, qNc_ptr, qNc_vptr, qNc_fn, qNot_bool, qExt_tup, qCallV_fn, qLss_int, qLeq_int, qGtr_int, qGeq_int, qEql_int, qNeq_int, qAdd_int, qSub_int, qMul_int, qConvI_int, qLenL_sl, qLenL_hsl, qLenS_str, foldO, min2_int, max2_int, qSame_refl, Nat.zero_add, List.getElem?_cons_zero, List.getElem?_cons_succ, List.nil_append, List.cons_append, List.append_nil, one_bool, one_int, one_str, one_nilp, one_ptr, one_sl, one_hsl, one_map, one_fn, List.length_cons, List.length_nil, List.set_cons_zero, List.set_cons_succ, Nat.reduceLT, Nat.reduceAdd, qG_un, rl, h', decide_true, e14]
  have h' : ¬ ((ch.length : Int) > 40) := by omega
  rcases Nat.lt_or_ge 40 ch'.length with h2 | h2
  · have h2' : ((ch'.length : Int) > 40) := by omega
    simp -implicitDefEqProofs only [c4, r4_0, r4_1, r4_2, opn_z, opn_s, sel_z, sel_s, qCd_eq, qIf_true, qIf_false, qFn_eq, qBl_eq, qO_some, qRes_val, qHp_some, qPick_true, qPick_false, qG_tt, qG_ff, qG_tf, qG_ft, cellsK_some, qLd_vptr, qLdA_vptr, qFa_ptr, qFa_vptr, qNc_ptr, qNc_vptr, qNc_fn, qNot_bool, qExt_tup, qCallV_fn, qLss_int, qLeq_int, qGtr_int, qGeq_int, qEql_int, qNeq_int, qAdd_int, qSub_int, qMul_int, qConvI_int, qLenL_sl, qLenL_hsl, qLenS_str, foldO, min2_int, max2_int, qSame_refl, Nat.zero_add, List.getElem?_cons_zero, List.getElem?_cons_succ, List.nil_append, List.cons_append, List.append_nil, one_bool, one_int, one_str, one_nilp, one_ptr, one_sl, one_hsl, one_map, one_fn, List.length_cons, List.length_nil, List.set_cons_zero, List.set_cons_succ, Nat.reduceLT, Nat.reduceAdd, qG_un, rl, rl', h', h2', decide_true, decide_false, e14]
  have h2' : ¬ ((ch'.length : Int) > 40) := by omega
  obtain ⟨r, ev, e25⟩ := ep25 (ch := ch) (by omega) 6 (by omega) tk 0 (by omega)
  obtain ⟨q, ew, e25b⟩ := ep25 (ch := ch') (by omega) 6 (by omega) tk' 0 (by omega)
  obtain ⟨rx, vx⟩ := made_right ch 6 11 0 (by omega)
  obtain ⟨ry, vy⟩ := made_right ch' 6 11 0 (by omega)
  obtain ⟨gx, ox, bx⟩ := made_good ch 6 0
  obtain ⟨gy, oy, byy⟩ := made_good ch' 6 0
  generalize (made 6 ch 0).1 = x at *
  generalize (made 6 ch 0).2 = jx at *
  generalize (made 6 ch' 0).1 = y at *
  generalize (made 6 ch' 0).2 = jy at *
  have e25' : ∀ H, EP 25 [.sl (iRows ch) tk, .int .i64 0, .int .i64 6] H = some (.val (.tup [.agg r, .int .i64 (jx : Int)]) H) := e25
  have e25b' : ∀ H, EP 25 [.sl (iRows ch') tk', .int .i64 0, .int .i64 6] H = some (.val (.tup [.agg q, .int .i64 (jy : Int)]) H) := e25b
  have h46 : 20 * 4 ^ 6 < 1000000000 := by decide
  obtain ⟨b5, Ha, H1, x1, x2, x3, x4, x5, x6⟩ := boxK (R := Prop) (Hs := H0) (H := H0) (.refl _) z25 r (n := 4) rfl ev.four ev.ones
  haveI := x5.fn
  obtain ⟨b7, Hb, H2, y1, y2, y3, y4, y5, y6⟩ := boxK (R := Prop) (Hs := H1) (H := H1) (.refl _) z25 q (n := 4) rfl ew.four ew.ones
  have g5 := (y6 b5 _ x3).1
  have ld5 := fun k => qLdA_whole (R := Prop) g5 ev.four k
  have ld7 := fun k => qLdA_whole (R := Prop) y3 ew.four k
  have tx := fun H => ep21 ev vx ox (by omega) H
  have ty := fun H => ep21 ew vy oy (by omega) H
  have cx := fun H => ep19 ev vx H
  have cy := fun H => ep19 ew vy H
  have sxy := fun H => ep23 ev ew vx vy H
  have sxx := fun H => ep23 ev ev vx vx H
  rw [rx] at cx
  rw [ry] at cy
  rw [(sameF_eq x x).2 rfl] at sxx
  have fx : textF x = txt x := if_pos rx
  have fy : textF y = txt y := if_pos ry
  have nx : decide (txt x = []) = false := decide_eq_false (by obtain ⟨c, r, h, _⟩ := Gd_head gx; rw [h]; simp)
  have ny : decide (txt y = []) = false := decide_eq_false (by obtain ⟨c, r, h, _⟩ := Gd_head gy; rw [h]; simp)
  have hxy : decide (txt x = txt y) = sameF x y := by
    rw [Bool.eq_iff_iff, decide_eq_true_eq, sameF_eq]
    refine ⟨fun h => ?_, fun h => by rw [h]⟩
    exact (inj x gx y gy [] [] (fun c r h => by cases h) (fun c r h => by cases h) (by rw [h])).1
  rw [fx] at tx
  rw [fy] at ty
  have qe : ∀ (a : Bool) (k : AV → Prop), qEql X 4 (.bool a) (.bool a) k = k (.bool true) := fun a k => by rw [qEql_bool]; simp
  simp -implicitDefEqProofs only [c4, r4_0, r4_1, r4_3, r4_4, r4_5, r4_6, opn_z, opn_s, sel_z, sel_s, qCd_eq, qIf_true, qIf_false, qFn_eq, qBl_eq, qO_some, qRes_val, qHp_some, qPick_true, qPick_false, qG_tt, qG_ff, qG_tf, qG_ft, cellsK_some, qLd_vptr, qLdA_vptr, qFa_ptr, qFa_vptr, qNc_ptr, qNc_vptr, qNc_fn, qNot_bool, qExt_tup, qCallV_fn, qLss_int, qLeq_int, qGtr_int, qGeq_int, qEql_int, qNeq_int, qAdd_int, qSub_int, qMul_int, qConvI_int, qLenL_sl, qLenL_hsl, qLenS_str, foldO, min2_int, max2_int, qSame_refl, Nat.zero_add, List.getElem?_cons_zero, List.getElem?_cons_succ, List.nil_append, List.cons_append, List.append_nil, one_bool, one_int, one_str, one_nilp, one_ptr, one_sl, one_hsl, one_map, one_fn, List.length_cons, List.length_nil, List.set_cons_zero, List.set_cons_succ, Nat.reduceLT, Nat.reduceAdd, qG_un, rl, rl', h', h2', decide_false, e25', e25b', x1, x2, y1, y2, ld5, ld7, tx, ty, cx, cy, qNeq_str, qEql_str, nx, ny, Bool.not_false, hxy, sxy, sxx, qe, e14]
theorem ev_numbers {ch ch' : List Int} (tk tk' : Tk) : ∃ H', EP 4 [.sl (iRows ch) tk, .sl (iRows ch') tk'] H0 = some (.val (.bool true) H') := by
  obtain ⟨w, H', h1, h2⟩ := ao_form (X := X) (D := OD2) (O := OF2) (S := PS) (al := [.sl (iRows ch) tk, .sl (iRows ch') tk']) (H := H0) e4 xf4 rfl rfl (Q := fun v _ => v = .bool true) (numbers_walk tk tk')
  subst h2
  exact ⟨H', h1⟩
end T
