import Derived.Test.YtgmifbbimcblcaaFillV1
import Derived.Test.YtgmifbbimcblcaaS15
import Derived.Test.YtgmifbbimcblcaaRows
set_option linter.all false
set_option linter.unusedVariables false
set_option linter.unusedSimpArgs false
set_option maxRecDepth 100000
namespace T
open Go Go.Aes Go.Proofs Go.Proofs.Ytgmifbbimcblcaa

section
variable {H : Type} {enc : TypeId × Value → H} {w : World} {base : Nat} {spare : Nat → Bool} {held : Bool}

theorem arg_str {n : Nat} {cs : List Value} {x : DataW H × List MemPlace} (h : DataW.trod enc Try.prog w base spare held n 9 cs = some x) : ∃ s : Str, RL (K0 w) [.str s] cs ∧ s.length ≤ 9223372036854775807 := by
  obtain ⟨s, rfl, rfl, hsz⟩ := DataW.trod_string Try.underlying9 h
  refine ⟨s.data.toList, RL.one ?_, by
    have h1 : s.size ≤ 9223372036854775807 := hsz
    have h2 : s.data.toList.length = s.size := Array.length_toList
    rw [h2]; exact h1⟩
  have := RV.str (K := K0 w) s.data.toList
  simpa using this
theorem arg_int {n : Nat} {cs : List Value} {x : DataW H × List MemPlace} (h : DataW.trod enc Try.prog w base spare held n 3 cs = some x) : ∃ k : Int, RL (K0 w) [.int .i64 k] cs := by
  obtain ⟨k, rfl, _, _⟩ := DataW.trod_int Try.underlying3 h
  exact ⟨k, RL.one (.int _ _)⟩

theorem strs_of : ∀ {ds : List (DataW H)} {rows : List (List AV)}, rows.length = ds.length → (∀ (i : Nat) (d : DataW H) (r : List AV), ds[i]? = some d → rows[i]? = some r → ∃ s : Str, r = [.str s]) →
    ∃ l, rows = strRows l
  | [], rows, hl, hq => by
    obtain rfl := List.eq_nil_of_length_eq_zero hl
    exact ⟨[], rfl⟩
  | d :: ds, [], hl, hq => by simp at hl
  | d :: ds, r :: rs, hl, hq => by
    obtain ⟨v, h1⟩ := hq 0 d r rfl rfl
    obtain ⟨l, h3⟩ := strs_of (ds := ds) (rows := rs) (by simpa using hl) (fun i d r a b => hq (i + 1) d r a b)
    exact ⟨v :: l, by rw [h1, h3]; rfl⟩
theorem vals_of : ∀ {ds : List (DataW H)} {rows : List (List AV)}, rows.length = ds.length → (∀ (i : Nat) (d : DataW H) (r : List AV), ds[i]? = some d → rows[i]? = some r → ∃ v, EV v r) →
    ∃ l, EVs l rows
  | [], rows, hl, hq => by
    obtain rfl := List.eq_nil_of_length_eq_zero hl
    exact ⟨[], rfl⟩
  | d :: ds, [], hl, hq => by simp at hl
  | d :: ds, r :: rs, hl, hq => by
    obtain ⟨v, h1⟩ := hq 0 d r rfl rfl
    obtain ⟨l, h3⟩ := vals_of (ds := ds) (rows := rs) (by simpa using hl) (fun i d r a b => hq (i + 1) d r a b)
    exact ⟨v :: l, ⟨r, rs, rfl, h1, h3⟩⟩
theorem arg_val (hs : ∀ b, spare b = true) : ∀ (k n : Nat) (cs : List Value) (x : DataW H × List MemPlace), SizeOf.sizeOf x.1 < k → DataW.trod enc Try.prog w base spare held n 58 cs = some x → ∃ v r, EV v r ∧ RL (K0 w) r cs := by
  intro k
  induction k with
  | zero => intro n cs x h; omega
  | succ k ih =>
    intro n cs x hk h
    obtain ⟨xs, m, rfl, rfl, hl, hxs, hf⟩ := DataW.trod_struct Try.underlying58 h
    have hl4 : cs.length = 4 := by rw [hl]; kernel_rfl
    match cs, hl4, xs, hxs with
    | [c0, c1, c2, c3], _, [y0, y1, y2, y3], _ =>
      have f0 := hf 0 _ rfl
      have f1 := hf 1 _ rfl
      have f2 := hf 2 _ rfl
      have f3 := hf 3 _ rfl
      have z1 : Try.prog.cellsOf 3 = 1 := by kernel_rfl
      have z2 : Try.prog.cellsOf 9 = 1 := by kernel_rfl
      have z3 : Try.prog.cellsOf 55 = 1 := by kernel_rfl
      have z4 : Try.prog.cellsOf 56 = 1 := by kernel_rfl
      simp only [z1, z2, z3, z4, List.drop_zero, List.drop_succ_cons, List.take_succ_cons, List.take_zero, List.getElem?_cons_zero, List.getElem?_cons_succ] at f0 f1 f2 f3
      obtain ⟨i0, g0⟩ := arg_int f0
      obtain ⟨s1, g1, b1⟩ := arg_str f1
      obtain ⟨rows2, t2, v2, ds2, e2, d2, l2, q2, g2⟩ := arg_slice (fun d r => ∃ s : Str, r = [.str s]) Try.underlying55 (by rw [z2]; omega) hs f2 (fun n cs' y _ hy => by
        obtain ⟨s, hs, hb⟩ := arg_str hy
        exact ⟨_, ⟨s, rfl⟩, hs⟩)
      have hsz : SizeOf.sizeOf y3.1 < k := by
        simp at hk
        omega
      obtain ⟨rows3, t3, v3, ds3, e3, d3, l3, q3, g3⟩ := arg_slice (fun d r => ∃ v, EV v r) Try.underlying56 (by rw [show Try.prog.cellsOf 58 = 4 by kernel_rfl]; omega) hs f3 (fun n cs' y hy0 hy => by
        obtain ⟨v, r, h1, h2⟩ := ih n cs' y (by omega) hy
        exact ⟨r, ⟨v, h1⟩, h2⟩)
      obtain rfl : c2 = v2 := by injection e2
      obtain rfl : c3 = v3 := by injection e3
      obtain ⟨ns, rfl⟩ := strs_of l2 q2
      obtain ⟨l, hl2⟩ := vals_of l3 q3
      refine ⟨.mk i0 s1 ns l, [.int .i64 i0, .str s1, .sl (strRows ns) t2, .sl rows3 t3], ⟨t2, t3, rows3, rfl, hl2⟩, ?_⟩
      exact RL.cons (g0.at_ 0 _ _ rfl rfl) (.cons (g1.at_ 0 _ _ rfl rfl) (.cons g2 (.cons g3 .nil)))
theorem arg_type {n : Nat} {cs : List Value} {x : DataW H × List MemPlace} (h : DataW.trod enc Try.prog w base spare held n 54 cs = some x) :
    ∃ s t : Str, RL (K0 w) [.str s, .str t] cs ∧ t.length ≤ 9223372036854775807 := by
  obtain ⟨xs, m, rfl, rfl, hl, hxs, hf⟩ := DataW.trod_struct Try.underlying54 h
  have hl4 : cs.length = 2 := by rw [hl]; kernel_rfl
  match cs, hl4, xs, hxs with
  | [c0, c1], _, [y0, y1], _ =>
    have f0 := hf 0 _ rfl
    have f1 := hf 1 _ rfl
    have z2 : Try.prog.cellsOf 9 = 1 := by kernel_rfl
    simp only [z2, List.drop_zero, List.drop_succ_cons, List.take_succ_cons, List.take_zero, List.getElem?_cons_zero, List.getElem?_cons_succ] at f0 f1
    obtain ⟨s0, g0, b0⟩ := arg_str f0
    obtain ⟨s1, g1, b1⟩ := arg_str f1
    exact ⟨s0, s1, RL.cons (g0.at_ 0 _ _ rfl rfl) (.cons (g1.at_ 0 _ _ rfl rfl) .nil), b1⟩

theorem nds_of : ∀ {ds : List (DataW H)} {rows : List (List AV)}, rows.length = ds.length → (∀ (i : Nat) (d : DataW H) (r : List AV), ds[i]? = some d → rows[i]? = some r → ∃ v, EN v r ∧ wok v) →
    ∃ l, ENs l rows ∧ woks l
  | [], rows, hl, hq => by
    obtain rfl := List.eq_nil_of_length_eq_zero hl
    exact ⟨[], rfl, trivial⟩
  | d :: ds, [], hl, hq => by simp at hl
  | d :: ds, r :: rs, hl, hq => by
    obtain ⟨v, h1, h2⟩ := hq 0 d r rfl rfl
    obtain ⟨l, h3, h4⟩ := nds_of (ds := ds) (rows := rs) (by simpa using hl) (fun i d r a b => hq (i + 1) d r a b)
    exact ⟨v :: l, ⟨r, rs, rfl, h1, h3⟩, h2, h4⟩

theorem arg_node (hs : ∀ b, spare b = true) : ∀ (k n : Nat) (cs : List Value) (x : DataW H × List MemPlace), SizeOf.sizeOf x.1 < k → DataW.trod enc Try.prog w base spare held n 61 cs = some x → ∃ v r, (EN v r ∧ wok v) ∧ RL (K0 w) r cs := by
  intro k
  induction k with
  | zero => intro n cs x h; omega
  | succ k ih =>
    intro n cs x hk h
    obtain ⟨xs, m, rfl, rfl, hl, hxs, hf⟩ := DataW.trod_struct Try.underlying61 h
    have hl4 : cs.length = 10 := by rw [hl]; kernel_rfl
    match cs, hl4, xs, hxs with
    | [c0, c1, c2, c3, c4, c5, c6, c7, c8, c9], _, [y0, y1, y2, y3, y4, y5], _ =>
      have f0 := hf 0 _ rfl
      have f1 := hf 1 _ rfl
      have f2 := hf 2 _ rfl
      have f3 := hf 3 _ rfl
      have f4 := hf 4 _ rfl
      have f5 := hf 5 _ rfl
      have z1 : Try.prog.cellsOf 3 = 1 := by kernel_rfl
      have z2 : Try.prog.cellsOf 9 = 1 := by kernel_rfl
      have z3 : Try.prog.cellsOf 54 = 2 := by kernel_rfl
      have z4 : Try.prog.cellsOf 58 = 4 := by kernel_rfl
      have z5 : Try.prog.cellsOf 59 = 1 := by kernel_rfl
      have z6 : Try.prog.cellsOf 61 = 10 := by kernel_rfl
      simp only [z1, z2, z3, z4, z5, List.drop_zero, List.drop_succ_cons, List.take_succ_cons, List.take_zero, List.getElem?_cons_zero, List.getElem?_cons_succ] at f0 f1 f2 f3 f4 f5
      obtain ⟨i0, g0⟩ := arg_int f0
      obtain ⟨s1, g1, b1⟩ := arg_str f1
      obtain ⟨tn, wr, g2, b2⟩ := arg_type f2
      obtain ⟨v, r, v1, g3⟩ := arg_val hs _ _ _ _ (Nat.lt_succ_self _) f3
      obtain ⟨s4, g4, b4⟩ := arg_str f4
      have hsz : SizeOf.sizeOf y5.1 < k := by
        simp at hk
        omega
      obtain ⟨rows3, t3, v3, ds3, e3, d3, l3, q3, g5⟩ := arg_slice (fun d r => ∃ v, EN v r ∧ wok v) Try.underlying59 (by rw [z6]; omega) hs f5 (fun n cs' y hy0 hy => by
        obtain ⟨v, r, h1, h2⟩ := ih n cs' y (by omega) hy
        exact ⟨r, ⟨v, h1⟩, h2⟩)
      obtain rfl : c9 = v3 := by injection e3
      obtain ⟨l, hl2, b5⟩ := nds_of l3 q3
      obtain ⟨k0, k1, k2, k3⟩ := v
      obtain ⟨t1, t2, rows, rfl, v2⟩ := v1
      refine ⟨.mk i0 s1 tn wr (.mk k0 k1 k2 k3) s4 l, [.int .i64 i0, .str s1, .str tn, .str wr, .int .i64 k0, .str k1, .sl (strRows k2) t1, .sl rows t2, .str s4, .sl rows3 t3],
        ⟨⟨_, _, _, _, t3, rows3, ⟨t1, t2, rows, rfl, v2⟩, rfl, hl2⟩, ⟨b2, b5⟩⟩, ?_⟩
      exact RL.cons (g0.at_ 0 _ _ rfl rfl) (.cons (g1.at_ 0 _ _ rfl rfl) (RL.append g2 (RL.append g3 (.cons (g4.at_ 0 _ _ rfl rfl) (.cons g5 .nil)))))
open Go.RowKit Go.WideShapes Go.ChangeShapes in
theorem arg_nodes {r : Reach} {b0 : Nat} {v : Value} {d : DataW H} {ps : List MemPlace} (hs : ∀ b, spare b = true) (hval : Value.okWide Try.prog w r b0 59 v) (hd : DataW.Trod enc Try.prog w base spare held 59 v d ps) :
    ∃ (l : List Nd) (rows : List (List AV)) (tk : Tk), ENs l rows ∧ woks l ∧ RV (K0 w) (.sl rows tk) v := by
  obtain ⟨fuel, hd⟩ := hd
  obtain ⟨rows3, t3, v3, ds3, e3, d3, l3, q3, g5⟩ := arg_slice (fun d r => ∃ v, EN v r ∧ wok v) Try.underlying59 (by rw [show Try.prog.cellsOf 61 = 10 by kernel_rfl]; omega) hs hd (fun n cs' y hy0 hy => by
    obtain ⟨v, r, h1, h2⟩ := arg_node hs _ n cs' y (Nat.lt_succ_self _) hy
    exact ⟨r, ⟨v, h1⟩, h2⟩)
  obtain ⟨l, hl2, b5⟩ := nds_of l3 q3
  have hv : v = v3 := by
    have hu := Try.underlying59
    cases v <;> simp [Value.cells] at e3 <;> simp_all [Value.okWide, Cell.okWide, Cell.ok]
  subst hv
  exact ⟨l, rows3, t3, hl2, b5, g5⟩
end
end T
set_option linter.unusedVariables false
set_option linter.unusedSimpArgs false
set_option maxRecDepth 10000
namespace T
open Go Go.Aes Go.Proofs

/-! ### not too much: few, Few; and back: Back -/
def valOf : Nd → Val
  | .mk _ _ _ _ val _ _ => val
/-- so deep at most, so many at most -/
def Dp : Nat → List Nd → Prop
  | 0, _ => False
  | k + 1, l => l.length ≤ 12 ∧ ∀ n ∈ l, n.w.length ≤ 9223372036854775807 ∧ vok (valOf n) ∧ Dp k (kidsOf n)
def tb : Nat → Nat
  | 0 => 0
  | k + 1 => 12 * (1 + tb k)
theorem tots_all {c : Nat} : ∀ {l : List Nd}, (∀ n ∈ l, tot n ≤ c) → tots l ≤ l.length * c
  | [], _ => by simp [tots]
  | n :: l, h => by
    have h1 := h n (by simp)
    have h2 := tots_all (l := l) (fun m hm => h m (by simp [hm]))
    simp only [tots, List.length_cons, Nat.succ_mul]; omega
theorem Dp.tots : ∀ {k : Nat} {l : List Nd}, Dp k l → tots l ≤ tb k
  | 0, l, h => h.elim
  | k + 1, l, ⟨h1, h2⟩ => by
    have h3 := tots_all (c := 1 + tb k) (l := l) (fun n hn => by
      have := Dp.tots (h2 n hn).2.2
      rw [tot_kids]; omega)
    have h4 : l.length * (1 + tb k) ≤ 12 * (1 + tb k) := Nat.mul_le_mul_right _ h1
    simp only [tb]; omega
theorem tb10 : tb 10 < 99999999999 := by decide +kernel
theorem nvoks_of : ∀ {l : List Nd}, (∀ n ∈ l, nvok n) → nvoks l
  | [], h => trivial
  | n :: l, h => ⟨h n (by simp), nvoks_of fun m hm => h m (by simp [hm])⟩
theorem Dp.nvoks : ∀ {k : Nat} {l : List Nd}, Dp k l → nvoks l
  | 0, l, h => h.elim
  | k + 1, l, ⟨_, h⟩ => by
    refine nvoks_of fun n hn => ?_
    obtain ⟨_, h1, h2⟩ := h n hn
    cases n
    exact ⟨h1, Dp.nvoks h2⟩
theorem wok_parts {n : Nd} (h : wok n) : n.w.length ≤ 9223372036854775807 ∧ woks (kidsOf n) := by cases n; exact h
theorem voks_of : ∀ {l : List Val}, (∀ n ∈ l, vok n) → voks l
  | [], h => trivial
  | n :: l, h => ⟨h n (by simp), voks_of fun m hm => h m (by simp [hm])⟩
theorem woks_of : ∀ {l : List Nd}, (∀ n ∈ l, wok n) → woks l
  | [], h => trivial
  | n :: l, h => ⟨h n (by simp), woks_of fun m hm => h m (by simp [hm])⟩
theorem Dp.woks : ∀ {k : Nat} {l : List Nd}, Dp k l → woks l
  | 0, l, h => h.elim
  | k + 1, l, h => by
    refine woks_of fun n hn => ?_
    obtain ⟨h1, _, h2⟩ := h.2 n hn
    cases n
    exact ⟨h1, Dp.woks h2⟩

def FewV (v : Val) : Prop := ∀ (r : List AV) (d : Nat), EV v r → d ≤ 1000 → ∃ w, (∃ b, w = .bool b ∧ (b = true → vok v)) ∧ ∀ H, EP 51 [.agg r, .int .i64 (d : Int)] H = some (.val w H)

theorem few_step (kk : Int) (s : Str) (ns : List Str) (l : List Val) (ih : ∀ v ∈ l, FewV v) : FewV (.mk kk s ns l) := by
  intro r d hr hd
  obtain ⟨a1, a2⟩ := EV.kill _ _ hr
  refine pu_form_ex e51 xf51 rfl (by simp only [AV.kills, AV.kill, AV.frees, AV.free, a2]; rfl) ?_
  simp only [AV.kills, AV.kill]
  obtain ⟨t1, t2, rows, h1, h2⟩ := a1
  rw [h1]
  have l1 := h2.len
  have bx1 : ∀ k : AV → AH → Prop, qBox (.agg [.int .i64 kk, .str s, .sl (strRows ns) t1, .sl rows t2]) H0 k = k (.ptr 0 0) (H0.push (.cells [.int .i64 kk, .str s, .sl (strRows ns) t1, .sl rows t2])) := fun k => by rw [qBox_i]; rfl
  have g0 : (H0.push (.cells [.int .i64 kk, .str s, .sl (strRows ns) t1, .sl rows t2])).get 0 = some (.cells [.int .i64 kk, .str s, .sl (strRows ns) t1, .sl rows t2]) := rfl
  simp -implicitDefEqProofs only [c51, r51_0, opn_z, opn_s, sel_z, sel_s, qCd_eq, qIf_true, qIf_false, qFn_eq, qBl_eq, qO_some, qRes_val, qHp_some, qPick_true, qPick_false, qG_tt, qG_ff, qG_tf, qG_ft, cellsK_some, qLd_vptr, qLdA_vptr, qFa_ptr, qFa_vptr, qNc_ptr, qNc_vptr, qNc_fn, qNot_bool, qExt_tup, qCallV_fn, qLss_int, qLeq_int, qGtr_int, qGeq_int, qEql_int, qNeq_int, qAdd_int, qSub_int, qMul_int, qConvI_int, qLenL_sl, qLenL_hsl, qLenS_str, foldO, min2_int, max2_int, qSame_refl, Nat.zero_add, List.getElem?_cons_zero, List.getElem?_cons_succ, List.nil_append, List.cons_append, List.append_nil, one_bool, one_int, one_str, one_nilp, one_ptr, one_sl, one_hsl, one_map, one_fn, List.length_cons, List.length_nil, List.set_cons_zero, List.set_cons_succ, Nat.reduceLT, Nat.reduceAdd, bx1]
  generalize H0.push (.cells [.int .i64 kk, .str s, .sl (strRows ns) t1, .sl rows t2]) = Ha at g0 ⊢
  have p1 := fun k => ld1 g0 1 _ rfl k
  have p2 := fun k => ld1 g0 2 _ rfl k
  have p3 := fun k => ld1 g0 3 _ rfl k
  have hls : ∀ (t : Tk) (k : AV → Prop), qLenL (.sl (strRows ns) t) k = k (.int .i64 (ns.length : Int)) := fun t k => by rw [qLenL_sl, strRows_len]
  by_cases c0 : (d : Int) = 0
  · have b0 : ((d : Int) == 0) = true := by simp [c0]
    simp -implicitDefEqProofs only [r51_1, r51_2, opn_z, opn_s, sel_z, sel_s, qCd_eq, qIf_true, qIf_false, qFn_eq, qBl_eq, qO_some, qRes_val, qHp_some, qPick_true, qPick_false, qG_tt, qG_ff, qG_tf, qG_ft, cellsK_some, qLd_vptr, qLdA_vptr, qFa_ptr, qFa_vptr, qNc_ptr, qNc_vptr, qNc_fn, qNot_bool, qExt_tup, qCallV_fn, qLss_int, qLeq_int, qGtr_int, qGeq_int, qEql_int, qNeq_int, qAdd_int, qSub_int, qMul_int, qConvI_int, qLenL_sl, qLenL_hsl, qLenS_str, foldO, min2_int, max2_int, qSame_refl, Nat.zero_add, List.getElem?_cons_zero, List.getElem?_cons_succ, List.nil_append, List.cons_append, List.append_nil, one_bool, one_int, one_str, one_nilp, one_ptr, one_sl, one_hsl, one_map, one_fn, List.length_cons, List.length_nil, List.set_cons_zero, List.set_cons_succ, Nat.reduceLT, Nat.reduceAdd, b0]
    exact ⟨rfl, _, rfl, fun h => by cases h⟩
  have b0 : ((d : Int) == 0) = false := by
    simp only [beq_eq_false_iff_ne, ne_eq]
    exact c0
  by_cases c1 : (12 : Int) < (l.length : Int)
  · simp -implicitDefEqProofs only [r51_1, r51_2, opn_z, opn_s, sel_z, sel_s, qCd_eq, qIf_true, qIf_false, qFn_eq, qBl_eq, qO_some, qRes_val, qHp_some, qPick_true, qPick_false, qG_tt, qG_ff, qG_tf, qG_ft, cellsK_some, qLd_vptr, qLdA_vptr, qFa_ptr, qFa_vptr, qNc_ptr, qNc_vptr, qNc_fn, qNot_bool, qExt_tup, qCallV_fn, qLss_int, qLeq_int, qGtr_int, qGeq_int, qEql_int, qNeq_int, qAdd_int, qSub_int, qMul_int, qConvI_int, qLenL_sl, qLenL_hsl, qLenS_str, foldO, min2_int, max2_int, qSame_refl, Nat.zero_add, List.getElem?_cons_zero, List.getElem?_cons_succ, List.nil_append, List.cons_append, List.append_nil, one_bool, one_int, one_str, one_nilp, one_ptr, one_sl, one_hsl, one_map, one_fn, List.length_cons, List.length_nil, List.set_cons_zero, List.set_cons_succ, Nat.reduceLT, Nat.reduceAdd, b0, p1, p2, p3, hls, l1, c1, decide_true]
    exact ⟨rfl, _, rfl, fun h => by cases h⟩
  by_cases c2 : (12 : Int) < (ns.length : Int)
  · simp -implicitDefEqProofs only [r51_1, r51_2, opn_z, opn_s, sel_z, sel_s, qCd_eq, qIf_true, qIf_false, qFn_eq, qBl_eq, qO_some, qRes_val, qHp_some, qPick_true, qPick_false, qG_tt, qG_ff, qG_tf, qG_ft, cellsK_some, qLd_vptr, qLdA_vptr, qFa_ptr, qFa_vptr, qNc_ptr, qNc_vptr, qNc_fn, qNot_bool, qExt_tup, qCallV_fn, qLss_int, qLeq_int, qGtr_int, qGeq_int, qEql_int, qNeq_int, qAdd_int, qSub_int, qMul_int, qConvI_int, qLenL_sl, qLenL_hsl, qLenS_str, foldO, min2_int, max2_int, qSame_refl, Nat.zero_add, List.getElem?_cons_zero, List.getElem?_cons_succ, List.nil_append, List.cons_append, List.append_nil, one_bool, one_int, one_str, one_nilp, one_ptr, one_sl, one_hsl, one_map, one_fn, List.length_cons, List.length_nil, List.set_cons_zero, List.set_cons_succ, Nat.reduceLT, Nat.reduceAdd, b0, p1, p2, p3, hls, l1, c1, c2, decide_true, decide_false]
    exact ⟨rfl, _, rfl, fun h => by cases h⟩
  by_cases c3 : (100 : Int) < (s.length : Int)
  · simp -implicitDefEqProofs only [r51_1, r51_2, opn_z, opn_s, sel_z, sel_s, qCd_eq, qIf_true, qIf_false, qFn_eq, qBl_eq, qO_some, qRes_val, qHp_some, qPick_true, qPick_false, qG_tt, qG_ff, qG_tf, qG_ft, cellsK_some, qLd_vptr, qLdA_vptr, qFa_ptr, qFa_vptr, qNc_ptr, qNc_vptr, qNc_fn, qNot_bool, qExt_tup, qCallV_fn, qLss_int, qLeq_int, qGtr_int, qGeq_int, qEql_int, qNeq_int, qAdd_int, qSub_int, qMul_int, qConvI_int, qLenL_sl, qLenL_hsl, qLenS_str, foldO, min2_int, max2_int, qSame_refl, Nat.zero_add, List.getElem?_cons_zero, List.getElem?_cons_succ, List.nil_append, List.cons_append, List.append_nil, one_bool, one_int, one_str, one_nilp, one_ptr, one_sl, one_hsl, one_map, one_fn, List.length_cons, List.length_nil, List.set_cons_zero, List.set_cons_succ, Nat.reduceLT, Nat.reduceAdd, b0, p1, p2, p3, hls, l1, c1, c2, c3, decide_true, decide_false]
    exact ⟨rfl, _, rfl, fun h => by cases h⟩
  simp -implicitDefEqProofs only [r51_1, r51_3, opn_z, opn_s, sel_z, sel_s, qCd_eq, qIf_true, qIf_false, qFn_eq, qBl_eq, qO_some, qRes_val, qHp_some, qPick_true, qPick_false, qG_tt, qG_ff, qG_tf, qG_ft, cellsK_some, qLd_vptr, qLdA_vptr, qFa_ptr, qFa_vptr, qNc_ptr, qNc_vptr, qNc_fn, qNot_bool, qExt_tup, qCallV_fn, qLss_int, qLeq_int, qGtr_int, qGeq_int, qEql_int, qNeq_int, qAdd_int, qSub_int, qMul_int, qConvI_int, qLenL_sl, qLenL_hsl, qLenS_str, foldO, min2_int, max2_int, qSame_refl, Nat.zero_add, List.getElem?_cons_zero, List.getElem?_cons_succ, List.nil_append, List.cons_append, List.append_nil, one_bool, one_int, one_str, one_nilp, one_ptr, one_sl, one_hsl, one_map, one_fn, List.length_cons, List.length_nil, List.set_cons_zero, List.set_cons_succ, Nat.reduceLT, Nat.reduceAdd, b0, p1, p2, p3, hls, l1, c1, c2, c3, decide_false]
  refine loop_inv (fun m fr H => ∃ (i : Nat) (x6 x26 x31 x40 x45 x56 : AV), m = ns.length - i ∧ i ≤ ns.length ∧
    fr = [.agg [.int .i64 kk, .str s, .sl (strRows ns) t1, .sl rows t2], .int .i64 (d : Int), .ptr 0 0, .bool false, .int .i64 (i : Int), x6, x26, x31, x40, x45, x56] ∧ H = Ha) ?_ (m := ns.length) ?_
  · rintro m fr Hh k ⟨i, x6, x26, x31, x40, x45, x56, rfl, hi, rfl, rfl⟩ hk
    rcases Nat.lt_or_ge i ns.length with h | h
    · have h' : (i : Int) < (ns.length : Int) := by omega
      have ix := fun t k => qIa_strs (tk := t) (List.getElem?_eq_getElem h) k
      have hw := wrap_up i (by omega)
      by_cases c4 : (100 : Int) < (ns[i].length : Int)
      · simp -implicitDefEqProofs only [l51_10, r51_4, r51_6, r51_7, opn_z, opn_s, sel_z, sel_s, qCd_eq, qIf_true, qIf_false, qFn_eq, qBl_eq, qO_some, qRes_val, qHp_some, qPick_true, qPick_false, qG_tt, qG_ff, qG_tf, qG_ft, cellsK_some, qLd_vptr, qLdA_vptr, qFa_ptr, qFa_vptr, qNc_ptr, qNc_vptr, qNc_fn, qNot_bool, qExt_tup, qCallV_fn, qLss_int, qLeq_int, qGtr_int, qGeq_int, qEql_int, qNeq_int, qAdd_int, qSub_int, qMul_int, qConvI_int, qLenL_sl, qLenL_hsl, qLenS_str, foldO, min2_int, max2_int, qSame_refl, Nat.zero_add, List.getElem?_cons_zero, List.getElem?_cons_succ, List.nil_append, List.cons_append, List.append_nil, one_bool, one_int, one_str, one_nilp, one_ptr, one_sl, one_hsl, one_map, one_fn, List.length_cons, List.length_nil, List.set_cons_zero, List.set_cons_succ, Nat.reduceLT, Nat.reduceAdd, p2, hls, h', decide_true, ix, c4]
        exact ⟨rfl, _, rfl, fun h => by cases h⟩
      · simp -implicitDefEqProofs only [l51_10, r51_4, r51_5, r51_6, opn_z, opn_s, sel_z, sel_s, qCd_eq, qIf_true, qIf_false, qFn_eq, qBl_eq, qO_some, qRes_val, qHp_some, qPick_true, qPick_false, qG_tt, qG_ff, qG_tf, qG_ft, cellsK_some, qLd_vptr, qLdA_vptr, qFa_ptr, qFa_vptr, qNc_ptr, qNc_vptr, qNc_fn, qNot_bool, qExt_tup, qCallV_fn, qLss_int, qLeq_int, qGtr_int, qGeq_int, qEql_int, qNeq_int, qAdd_int, qSub_int, qMul_int, qConvI_int, qLenL_sl, qLenL_hsl, qLenS_str, foldO, min2_int, max2_int, qSame_refl, Nat.zero_add, List.getElem?_cons_zero, List.getElem?_cons_succ, List.nil_append, List.cons_append, List.append_nil, one_bool, one_int, one_str, one_nilp, one_ptr, one_sl, one_hsl, one_map, one_fn, List.length_cons, List.length_nil, List.set_cons_zero, List.set_cons_succ, Nat.reduceLT, Nat.reduceAdd, p2, hls, h', decide_true, ix, c4, decide_false, hw]
        exact hk (ns.length - (i + 1)) _ _ (by omega) ⟨i + 1, _, _, _, _, _, _, rfl, h, rfl, rfl⟩
    · have h' : ¬ (i : Int) < (ns.length : Int) := by omega
      simp -implicitDefEqProofs only [l51_10, r51_4, r51_8, opn_z, opn_s, sel_z, sel_s, qCd_eq, qIf_true, qIf_false, qFn_eq, qBl_eq, qO_some, qRes_val, qHp_some, qPick_true, qPick_false, qG_tt, qG_ff, qG_tf, qG_ft, cellsK_some, qLd_vptr, qLdA_vptr, qFa_ptr, qFa_vptr, qNc_ptr, qNc_vptr, qNc_fn, qNot_bool, qExt_tup, qCallV_fn, qLss_int, qLeq_int, qGtr_int, qGeq_int, qEql_int, qNeq_int, qAdd_int, qSub_int, qMul_int, qConvI_int, qLenL_sl, qLenL_hsl, qLenS_str, foldO, min2_int, max2_int, qSame_refl, Nat.zero_add, List.getElem?_cons_zero, List.getElem?_cons_succ, List.nil_append, List.cons_append, List.append_nil, one_bool, one_int, one_str, one_nilp, one_ptr, one_sl, one_hsl, one_map, one_fn, List.length_cons, List.length_nil, List.set_cons_zero, List.set_cons_succ, Nat.reduceLT, Nat.reduceAdd, p2, hls, h', decide_false]
      refine loop_inv (fun m fr H => ∃ (i : Nat) (x5 x26 x31 x40 x45 x56 : AV), m = l.length - i ∧ i ≤ l.length ∧
        fr = [.agg [.int .i64 kk, .str s, .sl (strRows ns) t1, .sl rows t2], .int .i64 (d : Int), .ptr 0 0, .bool false, x5, .int .i64 (i : Int), x26, x31, x40, x45, x56] ∧ H = Hh ∧ ∀ v ∈ l.take i, vok v) ?_ (m := l.length) ?_
      · rintro m fr H k ⟨i, x5, x26, x31, x40, x45, x56, rfl, hi, rfl, rfl, hA⟩ hk
        rcases Nat.lt_or_ge i l.length with h | h
        · have h' : (i : Int) < (l.length : Int) := by omega
          obtain ⟨ra, e1, e2⟩ := h2.get (List.getElem?_eq_getElem h)
          have ix1 := fun k => qIa_rows (tk := t2) e1 e2.four k
          have la : ∀ (H : AH) (k : AV → Prop), qLdA 4 (.vptr ra 0) H k = k (.agg ra) := fun H k => by rw [qLdA_vptr, slice_whole ra 4 e2.four, qO_some]
          obtain ⟨w, ⟨b, rfl, hvk⟩, hc⟩ := ih _ (List.getElem_mem h) ra (d - 1) e2 (by omega)
          have hc' := hc H
          have hd1 : IntKind.i64.wrap ((d : Int) - 1) = ((d - 1 : Nat) : Int) := by rw [i64_in' (by omega)]; omega
          have hw := wrap_up i (by omega)
          cases b with
          | false =>
            simp -implicitDefEqProofs only [l51_5, r51_9, r51_11, r51_12, opn_z, opn_s, sel_z, sel_s, qCd_eq, qIf_true, qIf_false, qFn_eq, qBl_eq, qO_some, qRes_val, qHp_some, qPick_true, qPick_false, qG_tt, qG_ff, qG_tf, qG_ft, cellsK_some, qLd_vptr, qLdA_vptr, qFa_ptr, qFa_vptr, qNc_ptr, qNc_vptr, qNc_fn, qNot_bool, qExt_tup, qCallV_fn, qLss_int, qLeq_int, qGtr_int, qGeq_int, qEql_int, qNeq_int, qAdd_int, qSub_int, qMul_int, qConvI_int, qLenL_sl, qLenL_hsl, qLenS_str, foldO, min2_int, max2_int, qSame_refl, Nat.zero_add, List.getElem?_cons_zero, List.getElem?_cons_succ, List.nil_append, List.cons_append, List.append_nil, one_bool, one_int, one_str, one_nilp, one_ptr, one_sl, one_hsl, one_map, one_fn, List.length_cons, List.length_nil, List.set_cons_zero, List.set_cons_succ, Nat.reduceLT, Nat.reduceAdd, p3, l1, h', decide_true, ix1, la, hd1, hc', Bool.not_false]
            exact ⟨rfl, _, rfl, fun h => by cases h⟩
          | true =>
            simp -implicitDefEqProofs only [l51_5, r51_9, r51_10, r51_11, opn_z, opn_s, sel_z, sel_s, qCd_eq, qIf_true, qIf_false, qFn_eq, qBl_eq, qO_some, qRes_val, qHp_some, qPick_true, qPick_false, qG_tt, qG_ff, qG_tf, qG_ft, cellsK_some, qLd_vptr, qLdA_vptr, qFa_ptr, qFa_vptr, qNc_ptr, qNc_vptr, qNc_fn, qNot_bool, qExt_tup, qCallV_fn, qLss_int, qLeq_int, qGtr_int, qGeq_int, qEql_int, qNeq_int, qAdd_int, qSub_int, qMul_int, qConvI_int, qLenL_sl, qLenL_hsl, qLenS_str, foldO, min2_int, max2_int, qSame_refl, Nat.zero_add, List.getElem?_cons_zero, List.getElem?_cons_succ, List.nil_append, List.cons_append, List.append_nil, one_bool, one_int, one_str, one_nilp, one_ptr, one_sl, one_hsl, one_map, one_fn, List.length_cons, List.length_nil, List.set_cons_zero, List.set_cons_succ, Nat.reduceLT, Nat.reduceAdd, p3, l1, h', decide_true, ix1, la, hd1, hc', Bool.not_true, hw]
            refine hk (l.length - (i + 1)) _ _ (by omega) ⟨i + 1, _, _, _, _, _, _, rfl, h, rfl, rfl, ?_⟩
            rw [take_succ' (List.getElem?_eq_getElem h)]
            intro v hv
            rcases List.mem_append.1 hv with hv | hv
            · exact hA v hv
            · obtain rfl := List.mem_singleton.1 hv
              exact hvk rfl
        · have h' : ¬ (i : Int) < (l.length : Int) := by omega
          simp -implicitDefEqProofs only [l51_5, r51_9, r51_13, opn_z, opn_s, sel_z, sel_s, qCd_eq, qIf_true, qIf_false, qFn_eq, qBl_eq, qO_some, qRes_val, qHp_some, qPick_true, qPick_false, qG_tt, qG_ff, qG_tf, qG_ft, cellsK_some, qLd_vptr, qLdA_vptr, qFa_ptr, qFa_vptr, qNc_ptr, qNc_vptr, qNc_fn, qNot_bool, qExt_tup, qCallV_fn, qLss_int, qLeq_int, qGtr_int, qGeq_int, qEql_int, qNeq_int, qAdd_int, qSub_int, qMul_int, qConvI_int, qLenL_sl, qLenL_hsl, qLenS_str, foldO, min2_int, max2_int, qSame_refl, Nat.zero_add, List.getElem?_cons_zero, List.getElem?_cons_succ, List.nil_append, List.cons_append, List.append_nil, one_bool, one_int, one_str, one_nilp, one_ptr, one_sl, one_hsl, one_map, one_fn, List.length_cons, List.length_nil, List.set_cons_zero, List.set_cons_succ, Nat.reduceLT, Nat.reduceAdd, p3, l1, h', decide_false]
          refine ⟨rfl, _, rfl, fun _ => ⟨by omega, by omega, voks_of ?_⟩⟩
          rw [List.take_of_length_le (by omega)] at hA
          exact hA
      · exact ⟨0, _, _, _, _, _, _, rfl, by omega, rfl, rfl, by simp⟩
  · exact ⟨0, _, _, _, _, _, _, rfl, by omega, rfl, rfl⟩

theorem ep51 (v : Val) : FewV v := by
  refine Val.rec (motive_1 := FewV) (motive_2 := fun l => ∀ v ∈ l, FewV v) (fun kind s ns l ih => few_step kind s ns l ih) (fun n h => by cases h) (fun n l h1 h2 m hm => ?_) v
  rcases List.mem_cons.1 hm with rfl | hm
  · exact h1
  · exact h2 m hm

theorem EN.full {n : Nd} {row : List AV} (h : EN n row) : ∃ kind key tn a b c d what rws t val, row = [.int .i64 kind, .str key, .str tn, .str n.w, a, b, c, d, .str what, .sl rws t] ∧ ENs (kidsOf n) rws ∧ EV val [a, b, c, d] ∧ val = valOf n := by
  cases n
  obtain ⟨a, b, c, d, t, rows, h1, rfl, h2⟩ := h
  exact ⟨_, _, _, a, b, c, d, _, _, _, _, rfl, h2, h1, rfl⟩

theorem ep35 : ∀ (k : Nat), k ≤ 1000 → ∀ (l : List Nd) (rows : List (List AV)) (tk : Tk), ENs l rows → woks l → ∃ w, (∃ b, w = .bool b ∧ (b = true → Dp k l)) ∧ ∀ H, EP 35 [.sl rows tk, .int .i64 (k : Int)] H = some (.val w H) := by
  intro k
  induction k with
  | zero =>
    intro hk l rows tk hE hl
    obtain ⟨a1, a2⟩ := ENs.kill _ _ hE
    refine pu_form_ex e35 xf35 rfl (by simp only [AV.kills, AV.kill, AV.frees, Tk.kill_free, a2]; rfl) ?_
    simp only [AV.kills, AV.kill]
    have b0 : (((0 : Nat) : Int) == 0) = true := rfl
    simp -implicitDefEqProofs only [c35, r35_0, r35_1, r35_2, opn_z, opn_s, sel_z, sel_s, qCd_eq, qIf_true, qIf_false, qFn_eq, qBl_eq, qO_some, qRes_val, qHp_some, qPick_true, qPick_false, qG_tt, qG_ff, qG_tf, qG_ft, cellsK_some, qLd_vptr, qLdA_vptr, qFa_ptr, qFa_vptr, qNc_ptr, qNc_vptr, qNc_fn, qNot_bool, qExt_tup, qCallV_fn, qLss_int, qLeq_int, qGtr_int, qGeq_int, qEql_int, qNeq_int, qAdd_int, qSub_int, qMul_int, qConvI_int, qLenL_sl, qLenL_hsl, qLenS_str, foldO, min2_int, max2_int, qSame_refl, Nat.zero_add, List.getElem?_cons_zero, List.getElem?_cons_succ, List.nil_append, List.cons_append, List.append_nil, one_bool, one_int, one_str, one_nilp, one_ptr, one_sl, one_hsl, one_map, one_fn, List.length_cons, List.length_nil, List.set_cons_zero, List.set_cons_succ, Nat.reduceLT, Nat.reduceAdd, b0]
    exact ⟨rfl, false, rfl, fun h => by cases h⟩
  | succ k ih =>
    intro hk l rows tk hE hl
    obtain ⟨a1, a2⟩ := ENs.kill _ _ hE
    refine pu_form_ex e35 xf35 rfl (by simp only [AV.kills, AV.kill, AV.frees, Tk.kill_free, a2]; rfl) ?_
    simp only [AV.kills, AV.kill]
    generalize AV.killss rows = rows at a1
    generalize tk.kill = tk
    have l1 := a1.len
    have b0 : (((k + 1 : Nat) : Int) == 0) = false := by simp; omega
    by_cases c1 : (12 : Int) < (l.length : Int)
    · simp -implicitDefEqProofs only [c35, r35_0, r35_1, r35_2, opn_z, opn_s, sel_z, sel_s, qCd_eq, qIf_true, qIf_false, qFn_eq, qBl_eq, qO_some, qRes_val, qHp_some, qPick_true, qPick_false, qG_tt, qG_ff, qG_tf, qG_ft, cellsK_some, qLd_vptr, qLdA_vptr, qFa_ptr, qFa_vptr, qNc_ptr, qNc_vptr, qNc_fn, qNot_bool, qExt_tup, qCallV_fn, qLss_int, qLeq_int, qGtr_int, qGeq_int, qEql_int, qNeq_int, qAdd_int, qSub_int, qMul_int, qConvI_int, qLenL_sl, qLenL_hsl, qLenS_str, foldO, min2_int, max2_int, qSame_refl, Nat.zero_add, List.getElem?_cons_zero, List.getElem?_cons_succ, List.nil_append, List.cons_append, List.append_nil, one_bool, one_int, one_str, one_nilp, one_ptr, one_sl, one_hsl, one_map, one_fn, List.length_cons, List.length_nil, List.set_cons_zero, List.set_cons_succ, Nat.reduceLT, Nat.reduceAdd, b0, l1, c1, decide_true]
      exact ⟨rfl, false, rfl, fun h => by cases h⟩
    simp -implicitDefEqProofs only [c35, r35_0, r35_1, r35_3, opn_z, opn_s, sel_z, sel_s, qCd_eq, qIf_true, qIf_false, qFn_eq, qBl_eq, qO_some, qRes_val, qHp_some, qPick_true, qPick_false, qG_tt, qG_ff, qG_tf, qG_ft, cellsK_some, qLd_vptr, qLdA_vptr, qFa_ptr, qFa_vptr, qNc_ptr, qNc_vptr, qNc_fn, qNot_bool, qExt_tup, qCallV_fn, qLss_int, qLeq_int, qGtr_int, qGeq_int, qEql_int, qNeq_int, qAdd_int, qSub_int, qMul_int, qConvI_int, qLenL_sl, qLenL_hsl, qLenS_str, foldO, min2_int, max2_int, qSame_refl, Nat.zero_add, List.getElem?_cons_zero, List.getElem?_cons_succ, List.nil_append, List.cons_append, List.append_nil, one_bool, one_int, one_str, one_nilp, one_ptr, one_sl, one_hsl, one_map, one_fn, List.length_cons, List.length_nil, List.set_cons_zero, List.set_cons_succ, Nat.reduceLT, Nat.reduceAdd, b0, l1, c1, decide_false]
    refine loop_inv (fun m fr H => ∃ (i : Nat) (rest : List Nd) (x12 x16 x60 : AV), m = rest.length ∧ l.drop i = rest ∧ i + rest.length = l.length ∧ (∀ n ∈ l.take i, n.w.length ≤ 9223372036854775807 ∧ vok (valOf n) ∧ Dp k (kidsOf n)) ∧
      fr = [.sl rows tk, .int .i64 ((k + 1 : Nat) : Int), .bool false, .int .i64 (i : Int), x12, x16, x60] ∧ H = H0) ?_ (m := l.length) ?_
    · rintro m fr H q ⟨i, rest, x12, x16, x60, rfl, hd, hi, hA, rfl, rfl⟩ hk
      cases rest with
      | nil =>
        have h' : ¬ (i : Int) < (l.length : Int) := by simp at hi; omega
        rw [List.take_of_length_le (by simp at hi; omega)] at hA
        simp -implicitDefEqProofs only [l35_5, r35_4, r35_8, opn_z, opn_s, sel_z, sel_s, qCd_eq, qIf_true, qIf_false, qFn_eq, qBl_eq, qO_some, qRes_val, qHp_some, qPick_true, qPick_false, qG_tt, qG_ff, qG_tf, qG_ft, cellsK_some, qLd_vptr, qLdA_vptr, qFa_ptr, qFa_vptr, qNc_ptr, qNc_vptr, qNc_fn, qNot_bool, qExt_tup, qCallV_fn, qLss_int, qLeq_int, qGtr_int, qGeq_int, qEql_int, qNeq_int, qAdd_int, qSub_int, qMul_int, qConvI_int, qLenL_sl, qLenL_hsl, qLenS_str, foldO, min2_int, max2_int, qSame_refl, Nat.zero_add, List.getElem?_cons_zero, List.getElem?_cons_succ, List.nil_append, List.cons_append, List.append_nil, one_bool, one_int, one_str, one_nilp, one_ptr, one_sl, one_hsl, one_map, one_fn, List.length_cons, List.length_nil, List.set_cons_zero, List.set_cons_succ, Nat.reduceLT, Nat.reduceAdd, l1, h', decide_false]
        exact ⟨rfl, true, rfl, fun _ => ⟨by omega, hA⟩⟩
      | cons n rest =>
        obtain ⟨d1, d2, d3⟩ := drop_cons hd
        have h' : (i : Int) < (l.length : Int) := by omega
        obtain ⟨row, e1, e2⟩ := a1.get d1
        have hmem : n ∈ l := List.mem_of_getElem? d1
        have r1 := e2.ten.1
        obtain ⟨kind, key, tn, a, b, c, d, what, rws, t, val, rfl, f1, f2, f3⟩ := e2.full
        obtain ⟨hwn, hwk⟩ := wok_parts (woks_mem hl n hmem)
        obtain ⟨w1, ⟨y1, rfl, hy1⟩, hc1⟩ := ep51 val [a, b, c, d] 12 f2 (by omega)
        obtain ⟨w2, ⟨y2, rfl, hy2⟩, hc2⟩ := ih (by omega) (kidsOf n) rws t f1 hwk
        have hc1' := hc1 H0
        have hc2' := hc2 H0
        have ix := fun k => qIa_rows (tk := tk) e1 r1 k
        have hw := wrap_up i (by omega)
        have hk1 := wrap_dn k (by omega)
        have i12 : (((12 : Nat) : Int)) = 12 := rfl
        rw [i12] at hc1'
        have v4 : ∀ (H : AH) (q : AV → Prop), qLdA 4 (.vptr [.int .i64 kind, .str key, .str tn, .str n.w, a, b, c, d, .str what, .sl rws t] 4) H q = q (.agg [a, b, c, d]) := fun H q => by rw [qLdA_vptr]; rfl
        by_cases c2 : (200 : Int) < IntKind.i64.wrap (IntKind.i64.wrap ((key.length : Int) + (what.length : Int)) + (n.w.length : Int))
        · simp -implicitDefEqProofs only [l35_5, r35_4, r35_6, r35_7, opn_z, opn_s, sel_z, sel_s, qCd_eq, qIf_true, qIf_false, qFn_eq, qBl_eq, qO_some, qRes_val, qHp_some, qPick_true, qPick_false, qG_tt, qG_ff, qG_tf, qG_ft, cellsK_some, qLd_vptr, qLdA_vptr, qFa_ptr, qFa_vptr, qNc_ptr, qNc_vptr, qNc_fn, qNot_bool, qExt_tup, qCallV_fn, qLss_int, qLeq_int, qGtr_int, qGeq_int, qEql_int, qNeq_int, qAdd_int, qSub_int, qMul_int, qConvI_int, qLenL_sl, qLenL_hsl, qLenS_str, foldO, min2_int, max2_int, qSame_refl, Nat.zero_add, List.getElem?_cons_zero, List.getElem?_cons_succ, List.nil_append, List.cons_append, List.append_nil, one_bool, one_int, one_str, one_nilp, one_ptr, one_sl, one_hsl, one_map, one_fn, List.length_cons, List.length_nil, List.set_cons_zero, List.set_cons_succ, Nat.reduceLT, Nat.reduceAdd, l1, h', decide_true, ix, c2]
          exact ⟨rfl, false, rfl, fun h => by cases h⟩
        cases y1 with
        | false =>
          simp -implicitDefEqProofs only [l35_5, r35_4, r35_6, r35_7, opn_z, opn_s, sel_z, sel_s, qCd_eq, qIf_true, qIf_false, qFn_eq, qBl_eq, qO_some, qRes_val, qHp_some, qPick_true, qPick_false, qG_tt, qG_ff, qG_tf, qG_ft, cellsK_some, qLd_vptr, qLdA_vptr, qFa_ptr, qFa_vptr, qNc_ptr, qNc_vptr, qNc_fn, qNot_bool, qExt_tup, qCallV_fn, qLss_int, qLeq_int, qGtr_int, qGeq_int, qEql_int, qNeq_int, qAdd_int, qSub_int, qMul_int, qConvI_int, qLenL_sl, qLenL_hsl, qLenS_str, foldO, min2_int, max2_int, qSame_refl, Nat.zero_add, List.getElem?_cons_zero, List.getElem?_cons_succ, List.nil_append, List.cons_append, List.append_nil, one_bool, one_int, one_str, one_nilp, one_ptr, one_sl, one_hsl, one_map, one_fn, List.length_cons, List.length_nil, List.set_cons_zero, List.set_cons_succ, Nat.reduceLT, Nat.reduceAdd, l1, h', decide_true, ix, c2, decide_false, v4, hc1', Bool.not_false]
          exact ⟨rfl, false, rfl, fun h => by cases h⟩
        | true =>
          cases y2 with
          | false =>
            simp -implicitDefEqProofs only [l35_5, r35_4, r35_6, r35_7, opn_z, opn_s, sel_z, sel_s, qCd_eq, qIf_true, qIf_false, qFn_eq, qBl_eq, qO_some, qRes_val, qHp_some, qPick_true, qPick_false, qG_tt, qG_ff, qG_tf, qG_ft, cellsK_some, qLd_vptr, qLdA_vptr, qFa_ptr, qFa_vptr, qNc_ptr, qNc_vptr, qNc_fn, qNot_bool, qExt_tup, qCallV_fn, qLss_int, qLeq_int, qGtr_int, qGeq_int, qEql_int, qNeq_int, qAdd_int, qSub_int, qMul_int, qConvI_int, qLenL_sl, qLenL_hsl, qLenS_str, foldO, min2_int, max2_int, qSame_refl, Nat.zero_add, List.getElem?_cons_zero, List.getElem?_cons_succ, List.nil_append, List.cons_append, List.append_nil, one_bool, one_int, one_str, one_nilp, one_ptr, one_sl, one_hsl, one_map, one_fn, List.length_cons, List.length_nil, List.set_cons_zero, List.set_cons_succ, Nat.reduceLT, Nat.reduceAdd, l1, h', decide_true, ix, c2, decide_false, v4, hc1', Bool.not_true, Bool.not_false, hk1, hc2']
            exact ⟨rfl, false, rfl, fun h => by cases h⟩
          | true =>
            simp -implicitDefEqProofs only [l35_5, r35_4, r35_5, r35_6, opn_z, opn_s, sel_z, sel_s, qCd_eq, qIf_true, qIf_false, qFn_eq, qBl_eq, qO_some, qRes_val, qHp_some, qPick_true, qPick_false, qG_tt, qG_ff, qG_tf, qG_ft, cellsK_some, qLd_vptr, qLdA_vptr, qFa_ptr, qFa_vptr, qNc_ptr, qNc_vptr, qNc_fn, qNot_bool, qExt_tup, qCallV_fn, qLss_int, qLeq_int, qGtr_int, qGeq_int, qEql_int, qNeq_int, qAdd_int, qSub_int, qMul_int, qConvI_int, qLenL_sl, qLenL_hsl, qLenS_str, foldO, min2_int, max2_int, qSame_refl, Nat.zero_add, List.getElem?_cons_zero, List.getElem?_cons_succ, List.nil_append, List.cons_append, List.append_nil, one_bool, one_int, one_str, one_nilp, one_ptr, one_sl, one_hsl, one_map, one_fn, List.length_cons, List.length_nil, List.set_cons_zero, List.set_cons_succ, Nat.reduceLT, Nat.reduceAdd, l1, h', decide_true, ix, c2, decide_false, v4, hc1', Bool.not_true, hk1, hc2', hw]
            refine hk rest.length _ _ (by simp) ⟨i + 1, rest, _, _, _, rfl, d2, by simp at hi; omega, ?_, rfl, rfl⟩
            rw [take_succ' d1]
            intro m hm
            rcases List.mem_append.1 hm with hm | hm
            · exact hA m hm
            · obtain rfl := List.mem_singleton.1 hm
              exact ⟨hwn, by rw [← f3]; exact hy1 rfl, hy2 rfl⟩
    · exact ⟨0, l, _, _, _, rfl, rfl, by omega, by simp, rfl, rfl⟩

theorem ep36 : ∀ (k : Nat) (l : List Nd), Dp k l → ∀ (d : Nat), k ≤ d → d ≤ 1000 → ∀ (rows : List (List AV)) (tk : Tk), ENs l rows → tots l ≤ 100000000000 → ∃ v, SlOk l v ∧ ∀ H, EP 36 [.sl rows tk, .int .i64 (d : Int)] H = some (.val v H) := by
  intro k
  induction k with
  | zero => intro l h; exact h.elim
  | succ k ih =>
    intro l hdp d hkd hd1 rows tk hE hl
    obtain ⟨a1, a2⟩ := ENs.kill _ _ hE
    refine pu_form_ex e36 xf36 rfl (by simp only [AV.kills, AV.kill, AV.frees, Tk.kill_free, a2]; rfl) ?_
    simp only [AV.kills, AV.kill]
    generalize AV.killss rows = rows at a1
    generalize tk.kill = tk
    have l1 := a1.len
    have ll := tots_len l
    have hd0 : (0 : Int) < (d : Int) := by omega
    have hdd : IntKind.i64.wrap ((d : Int) - 1) = ((d - 1 : Nat) : Int) := by rw [i64_in' (by omega)]; omega
    simp -implicitDefEqProofs only [c36, r36_0, r36_1, r36_2, opn_z, opn_s, sel_z, sel_s, qCd_eq, qIf_true, qIf_false, qFn_eq, qBl_eq, qO_some, qRes_val, qHp_some, qPick_true, qPick_false, qG_tt, qG_ff, qG_tf, qG_ft, cellsK_some, qLd_vptr, qLdA_vptr, qFa_ptr, qFa_vptr, qNc_ptr, qNc_vptr, qNc_fn, qNot_bool, qExt_tup, qCallV_fn, qLss_int, qLeq_int, qGtr_int, qGeq_int, qEql_int, qNeq_int, qAdd_int, qSub_int, qMul_int, qConvI_int, qLenL_sl, qLenL_hsl, qLenS_str, foldO, min2_int, max2_int, qSame_refl, Nat.zero_add, List.getElem?_cons_zero, List.getElem?_cons_succ, List.nil_append, List.cons_append, List.append_nil, one_bool, one_int, one_str, one_nilp, one_ptr, one_sl, one_hsl, one_map, one_fn, List.length_cons, List.length_nil, List.set_cons_zero, List.set_cons_succ, Nat.reduceLT, Nat.reduceAdd]
    refine loop_inv (fun m fr H => ∃ (i : Nat) (rest : List Nd) (v : AV) (rs : List (List AV)) (x14 : AV), m = rest.length ∧ l.drop i = rest ∧ i + rest.length = l.length ∧ ENs (l.take i) rs ∧
      fr = [.sl rows tk, .int .i64 (d : Int), .sl [] .nil, v, .int .i64 (i : Int), x14] ∧ IsFn H ∧ Ow H v rs) ?_ (m := l.length) ?_
    · rintro m fr H q ⟨i, rest, v, rs, x14, rfl, hd, hi, hA, rfl, hfn, ow⟩ hk
      cases rest with
      | nil =>
        have h' : ¬ (i : Int) < (l.length : Int) := by simp at hi; omega
        rw [List.take_of_length_le (by simp at hi; omega)] at hA
        obtain ⟨tkv, rfl⟩ := ow.sl
        simp -implicitDefEqProofs only [l36_4, r36_3, r36_6, opn_z, opn_s, sel_z, sel_s, qCd_eq, qIf_true, qIf_false, qFn_eq, qBl_eq, qO_some, qRes_val, qHp_some, qPick_true, qPick_false, qG_tt, qG_ff, qG_tf, qG_ft, cellsK_some, qLd_vptr, qLdA_vptr, qFa_ptr, qFa_vptr, qNc_ptr, qNc_vptr, qNc_fn, qNot_bool, qExt_tup, qCallV_fn, qLss_int, qLeq_int, qGtr_int, qGeq_int, qEql_int, qNeq_int, qAdd_int, qSub_int, qMul_int, qConvI_int, qLenL_sl, qLenL_hsl, qLenS_str, foldO, min2_int, max2_int, qSame_refl, Nat.zero_add, List.getElem?_cons_zero, List.getElem?_cons_succ, List.nil_append, List.cons_append, List.append_nil, one_bool, one_int, one_str, one_nilp, one_ptr, one_sl, one_hsl, one_map, one_fn, List.length_cons, List.length_nil, List.set_cons_zero, List.set_cons_succ, Nat.reduceLT, Nat.reduceAdd, l1, h', decide_false]
        exact SlOk.of hA
      | cons n rest =>
        obtain ⟨d1, d2, d3⟩ := drop_cons hd
        have h' : (i : Int) < (l.length : Int) := by omega
        obtain ⟨row, e1, e2⟩ := a1.get d1
        have hmem : n ∈ l := List.mem_of_getElem? d1
        have r1 := e2.ten.1
        obtain ⟨kind, key, tn, w, a, b, c, dd, what, rws, t, rfl, f1, f2, f3⟩ := e2.all
        have htm := tots_mem n hmem
        have htk := tot_kids n
        obtain ⟨vk, ⟨rk, tkk, rfl, g1⟩, g2⟩ := ih (kidsOf n) (hdp.2 n hmem).2.2 (d - 1) (by omega) (by omega) rws t f1 (by omega)
        have ix := fun k => qIa_rows (tk := tk) e1 r1 k
        have hE2 := f3 rk tkk g1
        obtain ⟨r3, r4⟩ := hE2.ten
        have b1 : ∀ k : AV → Prop, qBld z101 [(0, 1, .int .i64 kind), (1, 1, .str key), (2, 2, .agg [.str tn, .str w]), (4, 4, .agg [a, b, c, dd]), (8, 1, .str what), (9, 1, .sl rk tkk)] k =
            k (.agg [.int .i64 kind, .str key, .str tn, .str w, a, b, c, dd, .str what, .sl rk tkk]) := fun k => by
          rw [qBld_eq]
          show qO (bif true && allOne [.int .i64 kind] then _ else _) _ = _
          show qO (bif allOne [a, b, c, dd] then _ else _) _ = _
          rw [f2]; rfl
        have b2 := fun k => qRows1 z101 _ r3 r4 k
        have hrl := hA.len
        rw [List.length_take] at hrl
        obtain ⟨v', H', k1, k2, k3, k4⟩ := ow.app (n := 10) (b := 168) (tk' := .full) r3 (by decide) (by decide) (by rw [hrl]; unfold most; omega) hA.tens r4
        have hw := wrap_up i (by omega)
        have vA : ∀ (o n : Nat) (r : List AV), slice? [.int .i64 kind, .str key, .str tn, .str w, a, b, c, dd, .str what, .sl rws t] o n = some r → ∀ (H : AH) (k : AV → Prop), qLdA n (.vptr [.int .i64 kind, .str key, .str tn, .str w, a, b, c, dd, .str what, .sl rws t] o) H k = k (.agg r) :=
          fun o n r h H k => by rw [qLdA_vptr, h, qO_some]
        have v2 := vA 2 2 [.str tn, .str w] rfl
        have v4 := vA 4 4 [a, b, c, dd] rfl
        simp -implicitDefEqProofs only [l36_4, r36_3, r36_4, r36_5, opn_z, opn_s, sel_z, sel_s, qCd_eq, qIf_true, qIf_false, qFn_eq, qBl_eq, qO_some, qRes_val, qHp_some, qPick_true, qPick_false, qG_tt, qG_ff, qG_tf, qG_ft, cellsK_some, qLd_ptr, qLd_vptr, qLdA_ptr, qLdA_vptr, qFa_ptr, qFa_vptr, qNc_ptr, qNc_vptr, qNc_fn, qNot_bool, qExt_tup, qCallV_fn, qLss_int, qLeq_int, qGtr_int, qGeq_int, qEql_int, qNeq_int, qAdd_int, qSub_int, qMul_int, qConvI_int, qLenL_sl, qLenL_hsl, qLenS_str, foldO, min2_int, max2_int, qSame_refl, Nat.zero_add, List.getElem?_cons_zero, List.getElem?_cons_succ, List.nil_append, List.cons_append, List.append_nil, one_bool, one_int, one_str, one_nilp, one_ptr, one_sl, one_hsl, one_map, one_fn, List.length_cons, List.length_nil, List.set_cons_zero, List.set_cons_succ, Nat.reduceLT, Nat.reduceAdd, l1, h', hd0, decide_true, ix, v2, v4, hdd, g2, b1, b2, k1, hw]
        exact hk rest.length _ _ (by simp) ⟨i + 1, rest, v', rs ++ [[.int .i64 kind, .str key, .str tn, .str w, a, b, c, dd, .str what, .sl rk tkk]], _, rfl, d2, by simp at hi; omega, by rw [take_succ' d1]; exact hA.append (.one hE2), rfl, k3.fn, k2⟩
    · exact ⟨0, l, _, [], _, rfl, rfl, by omega, rfl, rfl, inferInstance, .nil⟩

theorem ev_all {l : List Nd} {rows : List (List AV)} (tk : Tk) (hE : ENs l rows) (hb : woks l) : ∃ H', EP 13 [.sl rows tk] H0 = some (.val (.bool true) H') := by
  suffices key : ∃ v H', EP 13 [.sl rows tk] H0 = some (.val v H') ∧ v = .bool true by
    obtain ⟨v, H', h1, rfl⟩ := key
    exact ⟨H', h1⟩
  refine ap_form e13 xf13 rfl ?_
  obtain ⟨w, ⟨b, rfl, hdp⟩, hf⟩ := ep35 10 (by omega) l rows tk hE hb
  have i10 : (((10 : Nat) : Int)) = 10 := rfl
  have i20 : (((20 : Nat) : Int)) = 20 := rfl
  rw [i10] at hf
  cases b with
  | false =>
    have aw := ep33 H0
    simp -implicitDefEqProofs only [c13, r13_0, r13_1, r13_2, opn_z, opn_s, sel_z, sel_s, qCd_eq, qIf_true, qIf_false, qFn_eq, qBl_eq, qO_some, qRes_val, qHp_some, qPick_true, qPick_false, qG_tt, qG_ff, qG_tf, qG_ft, cellsK_some, qLd_vptr, qLdA_vptr, qFa_ptr, qFa_vptr, qNc_ptr, qNc_vptr, qNc_fn, qNot_bool, qExt_tup, qCallV_fn, qLss_int, qLeq_int, qGtr_int, qGeq_int, qEql_int, qNeq_int, qAdd_int, qSub_int, qMul_int, qConvI_int, qLenL_sl, qLenL_hsl, qLenS_str, foldO, min2_int, max2_int, qSame_refl, Nat.zero_add, List.getElem?_cons_zero, List.getElem?_cons_succ, List.nil_append, List.cons_append, List.append_nil, one_bool, one_int, one_str, one_nilp, one_ptr, one_sl, one_hsl, one_map, one_fn, List.length_cons, List.length_nil, List.set_cons_zero, List.set_cons_succ, Nat.reduceLT, Nat.reduceAdd, hf, Bool.not_false, aw]
  | true =>
    have hdp' := hdp rfl
    have ht := hdp'.tots
    have htb := tb10
    have k4 := hdp'.woks
    have k5 := hdp'.nvoks
    obtain ⟨v1, ⟨rn, tkn, rfl, n1⟩, n2⟩ := ep36 10 l hdp' 20 (by omega) (by omega) rows tk hE (by omega)
    rw [i20] at n2
    obtain ⟨f1, g1, g2⟩ := ep32 tk hE k4 (by omega)
    obtain ⟨f2, g3, g4⟩ := ep37 tkn n1 k4 (by omega)
    obtain ⟨r, f, t, r', f', t', rfl, rfl, q1, q2, q3, q4, q5, q6⟩ := both_end g1 g3 k5 (by omega)
    obtain ⟨p5, Hx, H1, x1, x2, x3, x4, x5, x6⟩ := boxK (Hs := H0) (.refl _) z58 r (n := 4) rfl q1 q2
    haveI := x5.fn
    obtain ⟨p7, Hy, H2, y1, y2, y3, y4, y5, y6⟩ := boxK (Hs := H1) (.refl _) z58 r' (n := 4) rfl q3 q4
    haveI := y5.fn
    have l5 := fun k => qLdA_whole (n := 4) (y6 _ _ x3).1 q1 k
    have l7 := fun k => qLdA_whole (n := 4) y3 q3 k
    have c40 := fun (H : AH) => ep40 l rows tk hE (by omega) H
    have c41 := fun (H : AH) => ep41 l rn tkn n1 (by omega) H
    have aw := ep33 H2
    simp -implicitDefEqProofs only [c13, r13_0, r13_1, r13_3, r13_4, r13_5, r13_6, opn_z, opn_s, sel_z, sel_s, qCd_eq, qIf_true, qIf_false, qFn_eq, qBl_eq, qO_some, qRes_val, qHp_some, qPick_true, qPick_false, qG_tt, qG_ff, qG_tf, qG_ft, cellsK_some, qLd_vptr, qLdA_vptr, qFa_ptr, qFa_vptr, qNc_ptr, qNc_vptr, qNc_fn, qNot_bool, qExt_tup, qCallV_fn, qLss_int, qLeq_int, qGtr_int, qGeq_int, qEql_int, qNeq_int, qAdd_int, qSub_int, qMul_int, qConvI_int, qLenL_sl, qLenL_hsl, qLenS_str, foldO, min2_int, max2_int, qSame_refl, Nat.zero_add, List.getElem?_cons_zero, List.getElem?_cons_succ, List.nil_append, List.cons_append, List.append_nil, one_bool, one_int, one_str, one_nilp, one_ptr, one_sl, one_hsl, one_map, one_fn, List.length_cons, List.length_nil, List.set_cons_zero, List.set_cons_succ, Nat.reduceLT, Nat.reduceAdd, hf, Bool.not_true, n2, g2, x1, x2, g4, y1, y2, l5, l7, q5, q6, c40, c41, beq_self_eq_true, aw]

end T
