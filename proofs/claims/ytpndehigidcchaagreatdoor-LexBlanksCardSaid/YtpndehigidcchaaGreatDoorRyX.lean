import Derived.Test.YtpndehigidcchaaGreatDoorRdX
import Derived.Test.YtpndehigidcchaaGreatDoorOrE
set_option linter.all false
set_option linter.unusedVariables false
set_option linter.unusedSimpArgs false
set_option maxRecDepth 10000
namespace T
open Go Go.Aes Go.Proofs
noncomputable abbrev EP4 : CallF := evO X OD2 OF4 PS
theorem up4 {g : Nat} {al : List AV} {H : AH} {r : Res} (h : EP g al H = some r) : EP4 g al H = some r := evO_sub (fun _ _ _ _ h => OF3_4 _ _ _ _ (OF2_3 _ _ _ _ h)) _ _ _ _ h
theorem ep63 (s old new : Str) (h1 : s.length < 4294967281) (h2 : 0 < old.length) (h3 : s.length + Lib.count s old * new.length ≤ 140737488355328) (H : AH) :
    EP4 49 [.str s, .str old, .str new] H = some (.val (.str (Lib.replaceAll s old new)) H) := by
  refine evO_O rfl ?_
  show oRA [.str s, .str old, .str new] H = _
  unfold oRA
  have : (s.length.blt 4294967281 && Nat.blt 0 old.length && (s.length + Lib.count s old * new.length).ble 140737488355328) = true := by
    simp only [Bool.and_eq_true, Nat.blt_eq, Nat.ble_eq]
    exact ⟨⟨h1, h2⟩, h3⟩
  simp only [this, cond_true]
theorem ep62 {H : AH} [IsFn H] (s sep : Str) (h1 : s.length < 4294967281) (h2 : 0 < sep.length) :
    EP4 48 [.str s, .str sep] H = some (.val (.hsl H.nx 0 (Lib.split s sep).length (Lib.split s sep).length 1 true) (H.push (.cells ((Lib.split s sep).map .str)))) := by
  refine evO_O rfl ?_
  show oSP [.str s, .str sep] H = _
  unfold oSP
  have : (s.length.blt 4294967281 && Nat.blt 0 sep.length) = true := by
    simp only [Bool.and_eq_true, Nat.blt_eq]
    exact ⟨h1, h2⟩
  simp only [this, cond_true]
  rw [new_i]
  rfl
theorem ep66 {H : AH} {i o n c : Nat} {g : Bool} {cs : List AV} {xs : List Str} {sep : Str} (hg : H.get i = some (.cells cs)) (hx : (cs.drop o).take n = xs.map .str) (hn : xs.length = n) (h1 : n ≤ 140737488355328) (h2 : (Lib.join xs sep).length ≤ 140737488355328) :
    EP4 52 [.hsl i o n c 1 g, .str sep] H = some (.val (.str (Lib.join xs sep)) H) := by
  refine evO_O rfl ?_
  show oJN [.hsl i o n c 1 g, .str sep] H = _
  unfold oJN
  simp only [hg, hx, strsOf_map, Option.bind_some]
  have : (xs.length.beq n && n.ble 140737488355328 && (Lib.join xs sep).length.ble 140737488355328) = true := by
    simp only [Bool.and_eq_true, Nat.beq_eq, Nat.ble_eq]
    exact ⟨⟨hn, h1⟩, h2⟩
  simp only [this, cond_true]
theorem slcH_lo (i o n c : Nat) (g : Bool) (a : Nat) (h : a ≤ n) (k : AV → Prop) : qSlc Tryz.t71.desc 1 (.hsl i o n c 1 g) (some (.int .i64 (a : Int))) none none k = k (.hsl i (o + a) (n - a) (c - a) 1 g) := by
  have hb : bnd (some (.int .i64 (a : Int))) 0 n = some a := by
    have : a.ble n = true := by simpa using h
    simp [bnd, asN, this]
  have : sliceD Tryz.t71.desc 1 (.hsl i o n c 1 g) (some (.int .i64 (a : Int))) none none = some (.hsl i (o + a) (n - a) (c - a) 1 g) := by
    show (match bnd none n c with
      | none => none
      | some h => match bnd (some (.int .i64 (a : Int))) 0 h with
        | none => none
        | some l => some (AV.hsl i (o + l * 1) (h - l) (c - l) 1 g)) = _
    simp only [bnd] at hb ⊢
    rw [hb]
    simp
  unfold qSlc
  rw [this, qO_some]
theorem slcH_hi (i o n c : Nat) (g : Bool) (a : Nat) (h : a ≤ c) (k : AV → Prop) : qSlc Tryz.t71.desc 1 (.hsl i o n c 1 g) none (some (.int .i64 (a : Int))) none k = k (.hsl i o a c 1 g) := by
  have hb : bnd (some (.int .i64 (a : Int))) n c = some a := by
    have : a.ble c = true := by simpa using h
    simp [bnd, asN, this]
  have : sliceD Tryz.t71.desc 1 (.hsl i o n c 1 g) none (some (.int .i64 (a : Int))) none = some (.hsl i o a c 1 g) := by
    show (match bnd (some (.int .i64 (a : Int))) n c with
      | none => none
      | some h => match bnd none 0 h with
        | none => none
        | some l => some (AV.hsl i (o + l * 1) (h - l) (c - l) 1 g)) = _
    rw [hb]
    simp [bnd]
  unfold qSlc
  rw [this, qO_some]
def isW (c : UInt8) : Bool := decide (c = 32) || decide (c = 9)
def ind (s : Str) : Nat := (s.takeWhile isW).length
def blank (s : Str) : Bool := decide (ind s = s.length)
theorem ind_le (s : Str) : ind s ≤ s.length := by
  unfold ind
  induction s with
  | nil => simp
  | cons a s ih =>
    rw [List.takeWhile_cons]
    cases isW a <;> simp [ih]
theorem ind_drop (s : Str) : s.dropWhile isW = s.drop (ind s) := by
  unfold ind
  induction s with
  | nil => rfl
  | cons a s ih =>
    rw [List.dropWhile_cons, List.takeWhile_cons]
    cases isW a <;> simp [ih]
theorem ind_at {s : Str} {i : Nat} {c : UInt8} (h : s[i]? = some c) : ind (s.drop i) = if isW c then ind (s.drop (i + 1)) + 1 else 0 := by
  have hl := (List.getElem?_eq_some_iff.1 h).1
  rw [List.drop_eq_getElem_cons hl]
  have := List.getElem?_eq_getElem hl
  rw [h] at this
  injection this with this
  rw [← this]
  unfold ind
  rw [List.takeWhile_cons]
  cases isW c <;> simp
theorem ep64 (s : Str) (hl : s.length < 1000000000000) (H : AH) : EP 50 [.str s] H = some (.val (.int .i64 (ind s : Int)) H) := by
  refine uo_form e50 xf50 rfl rfl rfl rfl ?_ H
  simp only [AV.kills, AV.kill]
  have ht := fun H => ep70 s 32 9 [] (by decide) (by decide) H
  have hd : s.dropWhile [32, 9].contains = s.drop (ind s) := by
    rw [← ind_drop]
    congr 1
    funext c
    simp [isW]
  rw [hd] at ht
  have hle := ind_le s
  have hw : IntKind.i64.wrap ((s.length : Int) - ((s.drop (ind s)).length : Int)) = (ind s : Int) := by
    rw [i64_in' (by simp; omega)]
    simp; omega
  simp -implicitDefEqProofs only [c50, r50_0, r50_1, opn_z, opn_s, sel_z, sel_s, qFn_eq, qRes_val, qSub_int, qLenS_str, AV.kill, ht, hw]
theorem ep65 (s : Str) (hl : s.length < 1000000000000) (H : AH) : EP 51 [.str s] H = some (.val (.bool (blank s)) H) := by
  refine uo_form e51 xf51 rfl rfl rfl rfl ?_ H
  simp only [AV.kills, AV.kill]
  have e50 := fun H => ep64 s hl H
  have hb : (((ind s : Nat) : Int) == (s.length : Int)) = blank s := by
    unfold blank
    rw [Bool.eq_iff_iff]
    simp
    omega
  simp -implicitDefEqProofs only [c51, r51_0, r51_1, opn_z, opn_s, sel_z, sel_s, qFn_eq, qRes_val, qEql_int, qLenS_str, AV.kill, e50, hb]
end T
set_option linter.unusedVariables false
set_option linter.unusedSimpArgs false
set_option maxRecDepth 10000
namespace T
open Go Go.Aes Go.Proofs
def cmn : Int → List Str → Int
  | c, [] => c
  | c, l :: r => cmn (if ind l < l.length ∧ (c < 0 ∨ (ind l : Int) < c) then (ind l : Int) else c) r
def cutL (c : Int) (l : Str) : Str := l.drop (min c.toNat (ind l))
def ddL : List Str → List Str
  | [] => []
  | l :: r => l :: r.map (cutL (cmn (-1) r))
def trimE (L : List Str) : List Str := (L.reverse.dropWhile blank).reverse
def blkF (L : List Str) : Str := Lib.join (trimE ((ddL L).dropWhile blank)) [10]
theorem trimE_snoc (l : List Str) (x : Str) : trimE (l ++ [x]) = if blank x then trimE l else l ++ [x] := by
  unfold trimE
  rw [List.reverse_append]
  show ((x :: l.reverse).dropWhile blank).reverse = _
  rw [List.dropWhile_cons]
  cases blank x <;> simp
theorem cmn_at {c : Int} {r : List Str} {j : Nat} (h : j < r.length) : cmn c (r.drop j) = cmn (if ind r[j] < r[j].length ∧ (c < 0 ∨ (ind r[j] : Int) < c) then (ind r[j] : Int) else c) (r.drop (j + 1)) := by
  rw [List.drop_eq_getElem_cons h]
  rfl
theorem join_le (B : Nat) : ∀ xs : List Str, (∀ l ∈ xs, l.length ≤ B) → (Lib.join xs [10]).length ≤ xs.length * (B + 1)
  | [], _ => by rw [Lib.join_nil]; simp
  | x :: r, h => by
    rw [Lib.join_cons, List.length_append]
    have h1 := h x (by simp)
    have h2 : ∀ r : List Str, (∀ l ∈ r, l.length ≤ B) → (Lib.joinTail [10] r).length ≤ r.length * (B + 1) := by
      intro r
      unfold Lib.joinTail
      induction r with
      | nil => intro _; simp
      | cons y r ih =>
        intro h
        have h3 := h y (by simp)
        have h4 := ih (fun l hl => h l (by simp [hl]))
        simp only [List.map_cons, List.flatten_cons, List.length_append, List.length_cons, List.length_nil]
        rw [Nat.add_mul]
        omega
    have h5 := h2 r (fun l hl => h l (by simp [hl]))
    simp only [List.length_cons]
    rw [Nat.add_mul]
    omega
theorem join_ok {D xs : List Str} (hD : ∀ l ∈ D, l.length < 1000000) (hL : D.length < 1000000) (hx : ∀ l ∈ xs, l ∈ D) (hn : xs.length ≤ D.length) : (Lib.join xs [10]).length ≤ 140737488355328 := by
  have h1 := join_le 1000000 xs (fun l hl => Nat.le_of_lt (hD l (hx l hl)))
  have h2 : xs.length * (1000000 + 1) ≤ 1000000 * (1000000 + 1) := Nat.mul_le_mul_right _ (by omega)
  omega
theorem blk_end {D : List Str} (hD : ∀ l ∈ D, l.length < 1000000) (hL : D.length < 1000000) {H1 : AH} [IsFn H1] {i a m c : Nat} (g : H1.get i = some (.cells (D.map .str))) (ham : a + m ≤ D.length) (hc : m ≤ c) (V : Str)
    (hV : V = Lib.join (trimE ((D.drop a).take m)) [10]) (x0 x2 x4 x6 x7 x8 x15 x16 x17 x18 x35 x40 x41 x42 x73 x88 : AV) :
    qLoop (l36_4 EP4 (r36_20 EP4 (fun fr (_ : AH) => (sel 1 fr).kill = .str V))) [x0, x2, .hsl i a m c 1 true, x4, x6, x7, x8, .fn (.func 51) [] [], x15, x16, x17, x18, x35, x40, x41, x42, x73, x88] H1 := by
  refine loop_inv (fun m' fr H' => ∃ (q : Nat) (x0 x2 x4 x6 x7 x8 x15 x16 x17 x18 x35 x40 x41 x42 x73 x88 : AV), m' = q ∧ q ≤ m ∧ fr = [x0, x2, .hsl i a q c 1 true, x4, x6, x7, x8, .fn (.func 51) [] [], x15, x16, x17, x18, x35, x40, x41, x42, x73, x88] ∧ H' = H1 ∧ trimE ((D.drop a).take m) = trimE ((D.drop a).take q)) ?_ (m := m) ?_
  case refine_2 => exact ⟨m, _, _, _, _, _, _, _, _, _, _, _, _, _, _, _, _, rfl, Nat.le_refl _, rfl, rfl, rfl⟩
  rintro m' fr H' k ⟨q, x0, x2, x4, x6, x7, x8, x15, x16, x17, x18, x35, x40, x41, x42, x73, x88, rfl, hq, rfl, rfl, hT⟩ hk
  have e52 : trimE ((D.drop a).take m') = (D.drop a).take m' → EP4 52 [.hsl i a m' c 1 true, .str [10]] H' = some (.val (.str V) H') := by
    intro h
    rw [hV, hT, h]
    exact ep66 g (by rw [← List.map_drop, ← List.map_take]) (by simp; omega) (by omega) (join_ok hD hL (fun l hl => List.mem_of_mem_drop (List.mem_of_mem_take hl)) (by simp; omega))
  cases m' with
  | zero =>
    have c1 : ¬ (0 : Int) < (((0 : Nat)) : Int) := by omega
    have e52 := e52 rfl
    simp -implicitDefEqProofs only [l36_4, r36_18, r36_20, opn_z, opn_s, sel_z, sel_s, qCd_eq, qIf_false, qBl_eq, qRes_val, qPick_false, qG_ft, qGtr_int, qLenL_hsl, c1, decide_false, e52, AV.kill]
  | succ p =>
    have c1 : (0 : Int) < ((p + 1 : Nat) : Int) := by omega
    have hw := wrap_dn p (by omega)
    have hlt : a + p < D.length := by omega
    have hs : (D.drop a)[p]? = some D[a + p] := by rw [List.getElem?_drop]; exact List.getElem?_eq_getElem hlt
    have ia : ∀ k : AV → Prop, qIa 1 (.hsl i a (p + 1) c 1 true) (.int .i64 (p : Int)) k = k (.ptr i (a + p)) := fun k => by
      have := qIa_hsl .i64 k 1 i a (p + 1) c true p (by omega)
      rw [Nat.mul_one] at this
      exact this
    have ld := fun k => ld1 (R := Prop) g (a + p) (.str D[a + p]) (by rw [List.getElem?_map, List.getElem?_eq_getElem hlt]; rfl) k
    have e51 := fun H => up4 (ep65 D[a + p] (by have := hD _ (List.getElem_mem hlt); omega) H)
    cases hb : blank D[a + p] with
    | true =>
      rw [hb] at e51
      have sl := fun k => slcH_hi i a (p + 1) c true p (by omega) k
      simp -implicitDefEqProofs only [l36_4, r36_18, r36_19, opn_z, opn_s, sel_z, sel_s, qCd_eq, qIf_true, qBl_eq, qRes_val, qPick_true, qG_tt, qCallV_fn, qGtr_int, qSub_int, qLenL_hsl, List.nil_append, List.append_nil, c1, decide_true, hw, ia, ld, e51, sl]
      refine hk p _ _ (by omega) ⟨p, _, _, _, _, _, _, _, _, _, _, _, _, _, _, _, _, rfl, by omega, rfl, rfl, ?_⟩
      rw [hT, take_succ' hs, trimE_snoc, if_pos hb]
    | false =>
      rw [hb] at e51
      have e52 := e52 (by rw [take_succ' hs, trimE_snoc, if_neg (by rw [hb]; simp)])
      simp -implicitDefEqProofs only [l36_4, r36_18, r36_20, opn_z, opn_s, sel_z, sel_s, qCd_eq, qIf_false, qBl_eq, qRes_val, qPick_true, qG_tt, qCallV_fn, qGtr_int, qSub_int, qLenL_hsl, List.nil_append, List.append_nil, c1, decide_true, hw, ia, ld, e51, e52, AV.kill]
theorem blk_trim {D : List Str} (hD : ∀ l ∈ D, l.length < 1000000) (hL : D.length < 1000000) {H1 : AH} [IsFn H1] {i : Nat} (g : H1.get i = some (.cells (D.map .str))) (V : Str)
    (hV : V = Lib.join (trimE (D.dropWhile blank)) [10]) (x0 x2 x4 x6 x7 x8 x9 x15 x16 x17 x18 x35 x40 x41 x42 x73 x88 : AV) :
    (r36_15 (qBl (fun k5 => (qLoop (l36_8 EP4 k5))) (qBl (fun k1 => (qLoop (l36_4 EP4 k1))) (r36_20 EP4 (fun fr (_ : AH) => (sel 1 fr).kill = .str V))))) [x0, x2, .hsl i 0 D.length D.length 1 true, x4, x6, x7, x8, x9, x15, x16, x17, x18, x35, x40, x41, x42, x73, x88] H1 := by
  simp -implicitDefEqProofs only [r36_15, opn_z, opn_s, qBl_eq]
  refine loop_inv (fun m fr H' => ∃ (a : Nat) (x0 x2 x4 x6 x7 x8 x15 x16 x17 x18 x35 x40 x41 x42 x73 x88 : AV), m = D.length - a ∧ a ≤ D.length ∧ fr = [x0, x2, .hsl i a (D.length - a) (D.length - a) 1 true, x4, x6, x7, x8, .fn (.func 51) [] [], x15, x16, x17, x18, x35, x40, x41, x42, x73, x88] ∧ H' = H1 ∧ D.dropWhile blank = (D.drop a).dropWhile blank) ?_ (m := D.length) ?_
  case refine_2 => exact ⟨0, _, _, _, _, _, _, _, _, _, _, _, _, _, _, _, _, rfl, by omega, rfl, rfl, rfl⟩
  rintro m fr H' k ⟨a, x0, x2, x4, x6, x7, x8, x15, x16, x17, x18, x35, x40, x41, x42, x73, x88, rfl, ha, rfl, rfl, hT⟩ hk
  obtain ⟨n, hn⟩ : ∃ n, n = D.length - a := ⟨_, rfl⟩
  rw [← hn]
  rcases Nat.lt_or_ge a D.length with h | h
  case inr =>
    have c1 : ¬ (0 : Int) < (n : Int) := by omega
    simp -implicitDefEqProofs only [l36_8, r36_16, opn_z, opn_s, sel_z, sel_s, qCd_eq, qIf_false, qBl_eq, qPick_false, qG_ft, qGtr_int, qLenL_hsl, c1, decide_false]
    refine blk_end hD hL g (by omega) (by omega) V ?_ _ _ _ _ _ _ _ _ _ _ _ _ _ _ _ _
    rw [hV, hT, List.drop_of_length_le h]
    simp
  have c1 : (0 : Int) < (n : Int) := by omega
  have ia : ∀ k : AV → Prop, qIa 1 (.hsl i a n n 1 true) (.int .i64 0) k = k (.ptr i a) := fun k => qIa_hsl .i64 k 1 i a n n true 0 (by omega)
  have ld := fun k => ld1 (R := Prop) g a (.str D[a]) (by rw [List.getElem?_map, List.getElem?_eq_getElem h]; rfl) k
  have e51 := fun H => up4 (ep65 D[a] (by have := hD _ (List.getElem_mem h); omega) H)
  cases hb : blank D[a] with
  | true =>
    rw [hb] at e51
    have sl : ∀ k : AV → Prop, qSlc Tryz.t71.desc 1 (.hsl i a n n 1 true) (some (.int .i64 1)) none none k = k (.hsl i (a + 1) (D.length - (a + 1)) (D.length - (a + 1)) 1 true) := fun k => by
      have := slcH_lo i a n n true 1 (by omega) k
      rw [show n - 1 = D.length - (a + 1) by omega] at this
      exact this
    simp -implicitDefEqProofs only [l36_8, r36_16, r36_17, opn_z, opn_s, sel_z, sel_s, qCd_eq, qIf_true, qBl_eq, qRes_val, qPick_true, qG_tt, qCallV_fn, qGtr_int, qLenL_hsl, List.nil_append, List.append_nil, c1, decide_true, ia, ld, e51, sl]
    refine hk (D.length - (a + 1)) _ _ (by omega) ⟨a + 1, _, _, _, _, _, _, _, _, _, _, _, _, _, _, _, _, rfl, h, rfl, rfl, ?_⟩
    rw [hT, List.drop_eq_getElem_cons h, List.dropWhile_cons, hb]; rfl
  | false =>
    rw [hb] at e51
    simp -implicitDefEqProofs only [l36_8, r36_16, opn_z, opn_s, sel_z, sel_s, qCd_eq, qIf_false, qBl_eq, qRes_val, qPick_true, qG_tt, qCallV_fn, qGtr_int, qLenL_hsl, List.nil_append, List.append_nil, c1, decide_true, ia, ld, e51]
    refine blk_end hD hL g (by omega) (by omega) V ?_ _ _ _ _ _ _ _ _ _ _ _ _ _ _ _ _
    rw [hV, hT, List.take_of_length_le (by simp; omega), List.drop_eq_getElem_cons h, List.dropWhile_cons, hb]; rfl
theorem cells_step {f : Str → Str} {l0 : Str} {r : List Str} {j : Nat} (h : j < r.length) :
    (l0 :: ((r.take j).map f ++ r.drop j))[j + 1]? = some r[j] ∧ (l0 :: ((r.take j).map f ++ r.drop j)).set (j + 1) (f r[j]) = l0 :: ((r.take (j + 1)).map f ++ r.drop (j + 1)) := by
  have hl : ((r.take j).map f).length = j := by simp; omega
  constructor
  · rw [List.getElem?_cons_succ, List.getElem?_append_right (by omega), hl, Nat.sub_self, List.getElem?_drop]
    exact List.getElem?_eq_getElem h
  · rw [List.set_cons_succ, List.set_append_right _ _ (by omega), hl, Nat.sub_self, List.drop_eq_getElem_cons h, List.set_cons_zero, take_succ' (List.getElem?_eq_getElem h)]
    simp only [List.map_append, List.map_cons, List.map_nil, List.append_assoc, List.singleton_append]
theorem cutL_le (c : Int) (l : Str) : (cutL c l).length ≤ l.length := by unfold cutL; simp
theorem blk_cut {l0 : Str} {r : List Str} (hD : ∀ l ∈ l0 :: r, l.length < 1000000) (hL : r.length + 1 < 1000000) {H1 : AH} [IsFn H1] {i : Nat} (g : H1.get i = some (.cells ((l0 :: r).map .str))) (C : Int) (V : Str)
    (hV : V = Lib.join (trimE ((l0 :: r.map (cutL C)).dropWhile blank)) [10]) (x0 x2 x6 x7 x8 x9 x15 x16 x17 x18 x35 x40 x41 x42 x73 x88 : AV) :
    (r36_10 (qBl (fun k9 => (qLoop (l36_12 EP4 k9))) (r36_15 (qBl (fun k5 => (qLoop (l36_8 EP4 k5))) (qBl (fun k1 => (qLoop (l36_4 EP4 k1))) (r36_20 EP4 (fun fr (_ : AH) => (sel 1 fr).kill = .str V))))))) [x0, x2, .hsl i 0 (r.length + 1) (r.length + 1) 1 true, .int .i64 C, x6, x7, x8, x9, x15, x16, x17, x18, x35, x40, x41, x42, x73, x88] H1 := by
  have sl : ∀ k : AV → Prop, qSlc Tryz.t71.desc 1 (.hsl i 0 (r.length + 1) (r.length + 1) 1 true) (some (.int .i64 1)) none none k = k (.hsl i 1 r.length r.length 1 true) := fun k => by
    have := slcH_lo i 0 (r.length + 1) (r.length + 1) true 1 (by omega) k
    simpa using this
  simp -implicitDefEqProofs only [r36_10, opn_z, opn_s, qBl_eq, qLenL_hsl, sl]
  refine loop_inv (fun m fr H' => ∃ (j : Nat) (x0 x2 x6 x7 x8 x9 x15 x16 x17 x18 x35 x42 x73 x88 : AV), m = r.length - j ∧ j ≤ r.length ∧ fr = [x0, x2, .hsl i 0 (r.length + 1) (r.length + 1) 1 true, .int .i64 C, x6, x7, x8, x9, x15, x16, x17, x18, x35, .int .i64 (r.length : Int), .int .i64 (j : Int), x42, x73, x88] ∧ IsFn H' ∧
    H'.get i = some (.cells ((l0 :: ((r.take j).map (cutL C) ++ r.drop j)).map .str))) ?_ (m := r.length) ?_
  case refine_2 => exact ⟨0, _, _, _, _, _, _, _, _, _, _, _, _, _, _, rfl, by omega, rfl, inferInstance, g⟩
  rintro m fr H' k ⟨j, x0, x2, x6, x7, x8, x9, x15, x16, x17, x18, x35, x42, x73, x88, rfl, hj, rfl, hf, g'⟩ hk
  rcases Nat.lt_or_ge j r.length with h | h
  case inr =>
    have c1 : ¬ (j : Int) < (r.length : Int) := by omega
    rw [List.take_of_length_le h, List.drop_of_length_le h, List.append_nil] at g'
    simp -implicitDefEqProofs only [l36_12, r36_11, qCd_eq, qIf_false, opn_s, opn_z, sel_s, sel_z, qLss_int, c1, decide_false]
    have hn : r.length + 1 = (l0 :: r.map (cutL C)).length := by simp
    rw [hn]
    refine blk_trim (D := l0 :: r.map (cutL C)) ?_ (by rw [← hn]; exact hL) g' V hV _ _ _ _ _ _ _ _ _ _ _ _ _ _ _ _ _
    intro l hl
    rcases List.mem_cons.1 hl with rfl | hl
    · exact hD _ (by simp)
    · obtain ⟨y, hy, rfl⟩ := List.mem_map.1 hl
      have := hD y (by simp [hy])
      have := cutL_le C y
      omega
  have c1 : (j : Int) < (r.length : Int) := by omega
  obtain ⟨s1, s2⟩ := cells_step (f := cutL C) (l0 := l0) h
  have hw1 : IntKind.i64.wrap (1 + (j : Int)) = ((j + 1 : Nat) : Int) := by rw [i64_in' (by omega)]; omega
  have ia : ∀ k : AV → Prop, qIa 1 (.hsl i 0 (r.length + 1) (r.length + 1) 1 true) (.int .i64 ((j + 1 : Nat) : Int)) k = k (.ptr i (j + 1)) := fun k => by
    have := qIa_hsl .i64 k 1 i 0 (r.length + 1) (r.length + 1) true (j + 1) (by omega)
    rw [Nat.mul_one, Nat.zero_add] at this
    exact this
  have ld := fun k => ld1 (R := Prop) g' (j + 1) (.str r[j]) (by rw [List.getElem?_map, s1]; rfl) k
  have hrj := hD r[j] (List.mem_cons_of_mem _ (List.getElem_mem h))
  have e50 := fun H => up4 (ep64 r[j] (by omega) H)
  have hile := ind_le r[j]
  have hm : min (max C 0) ((ind r[j] : Nat) : Int) = ((min C.toNat (ind r[j]) : Nat) : Int) := by omega
  have sc := fun k => slcS_lo r[j] (min C.toNat (ind r[j])) (by omega) k
  have st := fun k => qSt_1 (R := Prop) (o := j + 1) (v := .str (cutL C r[j])) g' (by
    have := (List.getElem?_eq_some_iff.1 s1).1
    simpa using this) rfl k
  rw [← List.map_set, s2] at st
  unfold cutL at st
  have hw := wrap_up j (by omega)
  simp -implicitDefEqProofs only [l36_12, r36_11, r36_12, r36_13, r36_14, opn_z, opn_s, sel_z, sel_s, qCd_eq, qIf_true, qBl_eq, qO_some, qRes_val, qLss_int, qAdd_int, foldO, min2_int, max2_int, qSame_refl, c1, decide_true, hw1, ia, ld, e50, hm, sc, st, hw]
  refine hk (r.length - (j + 1)) _ _ (by omega) ⟨j + 1, _, _, _, _, _, _, _, _, _, _, _, _, _, _, rfl, h, rfl, inferInstance, ?_⟩
  rw [get_set_i (lt_i g'), if_pos rfl]
  rfl
def lines38 (s : Str) : List Str := Lib.split (Lib.replaceAll (Lib.replaceAll s [13, 10] [10]) [13] [10]) [10]
set_option maxHeartbeats 1000000 in
theorem ep38 (s : Str) {l0 : Str} {r : List Str} (hlines : lines38 s = l0 :: r) (hs : s.length < 1000000) (h1 : (Lib.replaceAll s [13, 10] [10]).length < 1000000) (h2 : (Lib.replaceAll (Lib.replaceAll s [13, 10] [10]) [13] [10]).length < 1000000)
    (hD : ∀ l ∈ l0 :: r, l.length < 1000000) (hL : r.length + 1 < 1000000) (H : AH) : EP4 36 [.str s] H = some (.val (.str (blkF (l0 :: r))) H) := by
  refine uo_form (X := X) (D := OD2) (O := OF4) (S := PS) (al := [.str s]) e36 xf36 rfl rfl rfl rfl ?_ H
  simp only [AV.kills, AV.kill]
  have hcl : ∀ t old : Str, t.length < 1000000 → t.length + Lib.count t old * ([10] : Str).length ≤ 140737488355328 := fun t old ht => by
    have := Lib.count_le t old
    simp only [List.length_cons, List.length_nil]
    omega
  have ea := fun H => ep63 s [13, 10] [10] (by omega) (by decide) (hcl s _ hs) H
  have eb := fun H => ep63 (Lib.replaceAll s [13, 10] [10]) [13] [10] (by omega) (by decide) (hcl _ _ h1) H
  have ec := ep62 (H := H0) (Lib.replaceAll (Lib.replaceAll s [13, 10] [10]) [13] [10]) [10] (by omega) (by decide)
  have hl' : Lib.split (Lib.replaceAll (Lib.replaceAll s [13, 10] [10]) [13] [10]) [10] = l0 :: r := hlines
  rw [hl'] at ec
  have g := get_push_at (H := H0) (.cells ((l0 :: r).map AV.str))
  have hif : IsFn (H0.push (.cells ((l0 :: r).map AV.str))) := inferInstance
  have hn : (l0 :: r).length = r.length + 1 := rfl
  rw [hn] at ec
  generalize H0.push (.cells ((l0 :: r).map AV.str)) = H1 at *
  generalize H0.nx = i at *
  have sl : ∀ k : AV → Prop, qSlc Tryz.t71.desc 1 (.hsl i 0 (r.length + 1) (r.length + 1) 1 true) (some (.int .i64 1)) none none k = k (.hsl i 1 r.length r.length 1 true) := fun k => by
    have := slcH_lo i 0 (r.length + 1) (r.length + 1) true 1 (by omega) k
    simpa using this
  simp -implicitDefEqProofs only [c36, r36_0, r36_1, r36_2, r36_3, opn_z, opn_s, qFn_eq, qBl_eq, qRes_val, qLenL_hsl, ea, eb, ec, sl]
  refine loop_inv (fun m fr H' => ∃ (j : Nat) (cc : Int) (x0 x2 x6 x7 x8 x9 x18 x35 x40 x41 x42 x73 x88 : AV), m = r.length - j ∧ j ≤ r.length ∧ fr = [x0, x2, .hsl i 0 (r.length + 1) (r.length + 1) 1 true, .int .i64 cc, x6, x7, x8, x9, .hsl i 1 r.length r.length 1 true, .int .i64 (r.length : Int), .int .i64 (j : Int), x18, x35, x40, x41, x42, x73, x88] ∧ H' = H1 ∧
    cmn (-1) r = cmn cc (r.drop j)) ?_ (m := r.length) ?_
  case refine_2 => exact ⟨0, -1, _, _, _, _, _, _, _, _, _, _, _, _, _, rfl, by omega, rfl, rfl, rfl⟩
  rintro m fr H' k ⟨j, cc, x0, x2, x6, x7, x8, x9, x18, x35, x40, x41, x42, x73, x88, rfl, hj, rfl, rfl, hT⟩ hk
  rcases Nat.lt_or_ge j r.length with h | h
  case inr =>
    have c1 : ¬ (j : Int) < (r.length : Int) := by omega
    rw [List.drop_of_length_le h] at hT
    simp -implicitDefEqProofs only [l36_17, r36_4, qCd_eq, qIf_false, opn_s, opn_z, sel_s, sel_z, qLss_int, c1, decide_false]
    refine blk_cut hD hL g cc _ ?_ _ _ _ _ _ _ _ _ _ _ _ _ _ _ _ _
    show Lib.join (trimE ((l0 :: r.map (cutL (cmn (-1) r))).dropWhile blank)) [10] = _
    rw [hT]
    rfl
  have c1 : (j : Int) < (r.length : Int) := by omega
  have ia : ∀ k : AV → Prop, qIa 1 (.hsl i 1 r.length r.length 1 true) (.int .i64 (j : Int)) k = k (.ptr i (1 + j)) := fun k => by
    have := qIa_hsl .i64 k 1 i 1 r.length r.length true j h
    rw [Nat.mul_one] at this
    exact this
  have ld := fun k => ld1 (R := Prop) g (1 + j) (.str r[j]) (by
    rw [List.getElem?_map, show 1 + j = j + 1 by omega, List.getElem?_cons_succ, List.getElem?_eq_getElem h]; rfl) k
  have hrj := hD r[j] (List.mem_cons_of_mem _ (List.getElem_mem h))
  have e50 := fun H => up4 (ep64 r[j] (by omega) H)
  have hw := wrap_up j (by omega)
  rw [cmn_at h] at hT
  by_cases d1 : ((ind r[j] : Nat) : Int) < (r[j].length : Int)
  case neg =>
    rw [if_neg (fun hh => d1 (by omega))] at hT
    simp -implicitDefEqProofs only [l36_17, r36_4, r36_5, r36_6, r36_7, r36_9, opn_z, opn_s, sel_z, sel_s, qCd_eq, qIf_true, qIf_false, qBl_eq, qRes_val, qPick_false, qG_ft, qLss_int, qAdd_int, qLenS_str, qG_un, c1, decide_true, ia, ld, e50, d1, decide_false, hw]
    exact hk (r.length - (j + 1)) _ _ (by omega) ⟨j + 1, cc, _, _, _, _, _, _, _, _, _, _, _, _, _, rfl, h, rfl, rfl, hT⟩
  by_cases d2 : cc < 0
  · rw [if_pos ⟨by omega, .inl d2⟩] at hT
    simp -implicitDefEqProofs only [l36_17, r36_4, r36_5, r36_6, r36_7, r36_8, r36_9, opn_z, opn_s, sel_z, sel_s, qCd_eq, qIf_true, qBl_eq, qRes_val, qPick_true, qG_tt, qG_tf, qLss_int, qAdd_int, qLenS_str, c1, decide_true, ia, ld, e50, d1, d2, hw]
    exact hk (r.length - (j + 1)) _ _ (by omega) ⟨j + 1, _, _, _, _, _, _, _, _, _, _, _, _, _, _, rfl, h, rfl, rfl, hT⟩
  by_cases d3 : ((ind r[j] : Nat) : Int) < cc
  · rw [if_pos ⟨by omega, .inr d3⟩] at hT
    simp -implicitDefEqProofs only [l36_17, r36_4, r36_5, r36_6, r36_7, r36_8, r36_9, opn_z, opn_s, sel_z, sel_s, qCd_eq, qIf_true, qBl_eq, qRes_val, qPick_true, qPick_false, qG_tt, qG_ff, qLss_int, qAdd_int, qLenS_str, c1, decide_true, decide_false, ia, ld, e50, d1, d2, d3, hw]
    exact hk (r.length - (j + 1)) _ _ (by omega) ⟨j + 1, _, _, _, _, _, _, _, _, _, _, _, _, _, _, rfl, h, rfl, rfl, hT⟩
  · rw [if_neg (fun hh => hh.2.elim d2 d3)] at hT
    simp -implicitDefEqProofs only [l36_17, r36_4, r36_5, r36_6, r36_7, r36_9, opn_z, opn_s, sel_z, sel_s, qCd_eq, qIf_true, qIf_false, qBl_eq, qRes_val, qPick_true, qPick_false, qG_tt, qG_ff, qLss_int, qAdd_int, qLenS_str, c1, decide_true, decide_false, ia, ld, e50, d1, d2, d3, hw]
    exact hk (r.length - (j + 1)) _ _ (by omega) ⟨j + 1, cc, _, _, _, _, _, _, _, _, _, _, _, _, _, rfl, h, rfl, rfl, hT⟩
end T
set_option linter.unusedVariables false
set_option linter.unusedSimpArgs false
set_option maxRecDepth 10000
namespace T
open Go Go.Aes Go.Proofs
def RK (old new s : Str) : Str := Lib.replaceK old new (Lib.count s old) s
def SK (sep s : Str) : List Str := Lib.splitK sep 0 (Lib.count s sep) s
theorem count_nil {old : Str} (h : old ≠ []) : Lib.count [] old = 0 := by
  refine Lib.count_miss ?_
  cases old with
  | nil => exact absurd rfl h
  | cons a l => rfl
theorem index_pre {c : UInt8} {r old : Str} (h : old.isPrefixOf (c :: r) = true) : Lib.index (c :: r) old = 0 := by
  unfold Lib.index
  rw [if_pos h]
theorem index_npre {c : UInt8} {r old : Str} (h : old.isPrefixOf (c :: r) = false) : Lib.index (c :: r) old = if Lib.index r old == -1 then -1 else Lib.index r old + 1 := by
  rw [Lib.index, h]; simp
theorem RK_nil {old new : Str} (h : old ≠ []) : RK old new [] = [] := by
  unfold RK
  rw [count_nil h]; rfl
theorem RK_hit {old new : Str} {c : UInt8} {r : Str} (ho : old ≠ []) (h : old.isPrefixOf (c :: r) = true) : RK old new (c :: r) = new ++ RK old new ((c :: r).drop old.length) := by
  have hi : Lib.index (c :: r) old = ((0 : Nat) : Int) := index_pre h
  unfold RK
  rw [Lib.count_hit ho hi, Nat.add_comm 1, Lib.replaceK_hit old new _ _ 0 hi]
  simp
theorem RK_miss {old new : Str} {c : UInt8} {r : Str} (ho : old ≠ []) (h : old.isPrefixOf (c :: r) = false) : RK old new (c :: r) = c :: RK old new r := by
  have hx := index_npre h
  unfold RK
  by_cases hm : Lib.index r old = -1
  · rw [hm] at hx
    have hx' : Lib.index (c :: r) old = -1 := hx
    rw [Lib.count_miss hx', Lib.count_miss hm]
    rfl
  · have hge := Lib.index_ge r old
    obtain ⟨i, hi⟩ : ∃ i : Nat, Lib.index r old = (i : Int) := ⟨(Lib.index r old).toNat, by omega⟩
    have hx' : Lib.index (c :: r) old = ((i + 1 : Nat) : Int) := by
      rw [hx, hi]
      have : ¬ (((i : Int) == -1) = true) := by simp
      rw [if_neg this]; rfl
    rw [Lib.count_hit ho hx', Lib.count_hit ho hi, Nat.add_comm 1, Nat.add_comm 1, Lib.replaceK_hit old new _ _ _ hx', Lib.replaceK_hit old new _ _ _ hi]
    have e : (c :: r).drop (i + 1 + old.length) = r.drop (i + old.length) := by
      rw [show i + 1 + old.length = (i + old.length) + 1 by omega]; rfl
    rw [e]; rfl
theorem splitK_hit (sep : Str) (k : Nat) (s : Str) (i : Nat) (h : Lib.index s sep = i) : Lib.splitK sep 0 (k + 1) s = s.take i :: Lib.splitK sep 0 k (s.drop (i + sep.length)) := by
  have hm : ¬ (Lib.index s sep == -1) = true := fun e => by have := beq_iff_eq.1 e; omega
  have e : (Lib.index s sep).toNat = i := by omega
  rw [Lib.splitK, if_neg hm, e]; rfl
theorem SK_nil {sep : Str} (h : sep ≠ []) : SK sep [] = [[]] := by
  unfold SK
  rw [count_nil h]; rfl
theorem SK_hit {sep : Str} {c : UInt8} {r : Str} (ho : sep ≠ []) (h : sep.isPrefixOf (c :: r) = true) : SK sep (c :: r) = [] :: SK sep ((c :: r).drop sep.length) := by
  have hi : Lib.index (c :: r) sep = ((0 : Nat) : Int) := index_pre h
  unfold SK
  rw [Lib.count_hit ho hi, Nat.add_comm 1, splitK_hit sep _ _ 0 hi]
  simp
theorem SK_miss {sep : Str} {c : UInt8} {r h : Str} {t : List Str} (ho : sep ≠ []) (hp : sep.isPrefixOf (c :: r) = false) (hr : SK sep r = h :: t) : SK sep (c :: r) = (c :: h) :: t := by
  have hx := index_npre hp
  unfold SK at hr ⊢
  by_cases hm : Lib.index r sep = -1
  · rw [hm] at hx
    have hx' : Lib.index (c :: r) sep = -1 := hx
    rw [Lib.count_miss hm] at hr
    rw [Lib.count_miss hx']
    have hr' : [r] = h :: t := hr
    injection hr' with h1 h2
    subst h1; subst h2
    rfl
  · have hge := Lib.index_ge r sep
    obtain ⟨i, hi⟩ : ∃ i : Nat, Lib.index r sep = (i : Int) := ⟨(Lib.index r sep).toNat, by omega⟩
    have hx' : Lib.index (c :: r) sep = ((i + 1 : Nat) : Int) := by
      rw [hx, hi]
      have : ¬ (((i : Int) == -1) = true) := by simp
      rw [if_neg this]; rfl
    rw [Lib.count_hit ho hi, Nat.add_comm 1, splitK_hit sep _ _ _ hi] at hr
    rw [Lib.count_hit ho hx', Nat.add_comm 1, splitK_hit sep _ _ _ hx']
    have e : (c :: r).drop (i + 1 + sep.length) = r.drop (i + sep.length) := by
      rw [show i + 1 + sep.length = (i + sep.length) + 1 by omega]; rfl
    rw [e]
    injection hr with h1 h2
    rw [h2, ← h1]; rfl
def linesD (cur : Str) (s : Str) : List Str :=
  match s with
  | [] => [cur]
  | c :: r => if c = 13 ∧ r.head? = some 10 then cur :: linesD [] r.tail else if c = 10 ∨ c = 13 then cur :: linesD [] r else linesD (cur ++ [c]) r
termination_by s.length
decreasing_by all_goals (simp; try omega)
def prep (s : Str) : Str := RK [13] [10] (RK [13, 10] [10] s)
theorem pre1 (c d : UInt8) (r : Str) : ([d] : Str).isPrefixOf (c :: r) = decide (d = c) := by
  simp only [List.isPrefixOf, Bool.and_true]
  rw [Bool.eq_iff_iff]; simp
theorem pre2 (c : UInt8) (r : Str) : ([13, 10] : Str).isPrefixOf (c :: r) = decide (c = 13 ∧ r.head? = some 10) := by
  cases r with
  | nil => simp [List.isPrefixOf]
  | cons d r =>
    simp only [List.isPrefixOf, Bool.and_true, List.head?_cons, Option.some.injEq]
    rw [Bool.eq_iff_iff]
    simp only [Bool.and_eq_true, beq_iff_eq, decide_eq_true_eq]
    constructor
    · rintro ⟨h1, h2⟩; exact ⟨h1.symm, h2.symm⟩
    · rintro ⟨h1, h2⟩; exact ⟨h1.symm, h2.symm⟩
theorem lines_eq : ∀ (n : Nat) (s : Str), s.length ≤ n → ∀ cur, ∃ h t, SK [10] (prep s) = h :: t ∧ linesD cur s = (cur ++ h) :: t
  | n, [], _, cur => by
    refine ⟨[], [], ?_, ?_⟩
    · unfold prep
      rw [RK_nil (by simp), RK_nil (by simp), SK_nil (by simp)]
    · rw [linesD]; simp
  | 0, c :: r, hn, cur => by simp at hn
  | n + 1, c :: r, hn, cur => by
    simp only [List.length_cons] at hn
    have p2 := pre2 c r
    by_cases h1 : c = 13 ∧ r.head? = some 10
    · rw [decide_eq_true h1] at p2
      obtain ⟨rfl, h2⟩ := h1
      cases r with
      | nil => cases h2
      | cons d r =>
        obtain rfl : d = 10 := by simpa using h2
        simp only [List.length_cons] at hn
        obtain ⟨h, t, e1, e2⟩ := lines_eq n r (by omega) []
        refine ⟨[], h :: t, ?_, ?_⟩
        · unfold prep at e1 ⊢
          rw [RK_hit (by simp) p2]
          show SK [10] (RK [13] [10] (10 :: RK [13, 10] [10] r)) = _
          rw [RK_miss (by simp) (by rw [pre1]; decide), SK_hit (by simp) (by rw [pre1]; decide)]
          show [] :: SK [10] (RK [13] [10] (RK [13, 10] [10] r)) = _
          rw [e1]
        · rw [linesD, if_pos ⟨rfl, rfl⟩]
          show cur :: linesD [] r = _
          rw [e2]; simp
    · rw [decide_eq_false h1] at p2
      have hp : prep (c :: r) = RK [13] [10] (c :: RK [13, 10] [10] r) := by
        unfold prep
        rw [RK_miss (by simp) p2]
      rw [linesD, if_neg h1, hp]
      by_cases h2 : c = 10 ∨ c = 13
      · obtain ⟨h, t, e1, e2⟩ := lines_eq n r (by omega) []
        rw [if_pos h2]
        refine ⟨[], h :: t, ?_, by rw [e2]; simp⟩
        have hq : RK [13] [10] (c :: RK [13, 10] [10] r) = 10 :: prep r := by
          rcases h2 with rfl | rfl
          · rw [RK_miss (by simp) (by rw [pre1]; decide)]; rfl
          · rw [RK_hit (by simp) (by rw [pre1]; decide)]; rfl
        rw [hq, SK_hit (by simp) (by rw [pre1]; decide)]
        show [] :: SK [10] (prep r) = _
        rw [e1]
      · obtain ⟨h, t, e1, e2⟩ := lines_eq n r (by omega) (cur ++ [c])
        rw [if_neg h2]
        refine ⟨c :: h, t, ?_, by rw [e2]; simp⟩
        rw [RK_miss (by simp) (by rw [pre1]; exact decide_eq_false (fun e => h2 (.inr e.symm)))]
        exact SK_miss (by simp) (by rw [pre1]; exact decide_eq_false (fun e => h2 (.inl e.symm))) e1
theorem RK_all {s old new : Str} (h : old ≠ new) : Lib.replaceAll s old new = RK old new s := by
  unfold Lib.replaceAll Lib.replace Lib.replaceNum RK
  have : ¬ ((old == new) = true) := by simpa using h
  rw [if_neg this, if_pos (.inl (by decide))]
theorem lines38_eq (s : Str) : lines38 s = linesD [] s := by
  obtain ⟨h, t, e1, e2⟩ := lines_eq s.length s (Nat.le_refl _) []
  unfold lines38
  rw [RK_all (by decide), RK_all (by decide)]
  show SK [10] (prep s) = _
  rw [e1, e2]; rfl
theorem linesD_ne (cur s : Str) : ∃ l r, linesD cur s = l :: r := by
  obtain ⟨h, t, _, e⟩ := lines_eq s.length s (Nat.le_refl _) cur
  exact ⟨_, _, e⟩
theorem linesD_le : ∀ (n : Nat) (s : Str), s.length ≤ n → ∀ cur : Str, (∀ l ∈ linesD cur s, l.length ≤ cur.length + s.length) ∧ (linesD cur s).length ≤ s.length + 1
  | n, [], _, cur => by rw [linesD]; simp
  | 0, c :: r, hn, cur => by simp at hn
  | n + 1, c :: r, hn, cur => by
    simp only [List.length_cons] at hn
    rw [linesD]
    split
    · obtain ⟨i1, i2⟩ := linesD_le n r.tail (by simp; omega) []
      refine ⟨fun l hl => ?_, ?_⟩
      · rcases List.mem_cons.1 hl with rfl | hl
        · simp
        · have := i1 l hl
          simp at this ⊢; omega
      · simp at i2 ⊢; omega
    · split
      · obtain ⟨i1, i2⟩ := linesD_le n r (by omega) []
        refine ⟨fun l hl => ?_, ?_⟩
        · rcases List.mem_cons.1 hl with rfl | hl
          · simp
          · have := i1 l hl
            simp at this ⊢; omega
        · simp; omega
      · obtain ⟨i1, i2⟩ := linesD_le n r (by omega) (cur ++ [c])
        refine ⟨fun l hl => ?_, ?_⟩
        · have := i1 l hl
          simp at this ⊢; omega
        · simp; omega
theorem RK_le {old new : Str} (ho : old ≠ []) (hl : new.length ≤ old.length) : ∀ (n : Nat) (s : Str), s.length ≤ n → (RK old new s).length ≤ s.length
  | n, [], _ => by rw [RK_nil ho]; simp
  | 0, c :: r, hn => by simp at hn
  | n + 1, c :: r, hn => by
    have hol := List.length_pos_iff.2 ho
    simp only [List.length_cons] at hn
    cases hp : old.isPrefixOf (c :: r) with
    | true =>
      have h1 := List.IsPrefix.length_le (List.isPrefixOf_iff_prefix.1 hp)
      have h2 := RK_le ho hl n ((c :: r).drop old.length) (by simp; omega)
      rw [RK_hit ho hp, List.length_append]
      simp only [List.length_drop, List.length_cons] at h1 h2 ⊢
      omega
    | false =>
      have h2 := RK_le ho hl n r (by omega)
      rw [RK_miss ho hp]
      simp only [List.length_cons]
      omega
def blockF (s : Str) : Str := blkF (linesD [] s)
theorem ep38s (s : Str) (hs : s.length < 900000) (H : AH) : EP4 36 [.str s] H = some (.val (.str (blockF s)) H) := by
  obtain ⟨l, r, e⟩ := linesD_ne [] s
  have h1 : (Lib.replaceAll s [13, 10] [10]).length ≤ s.length := by
    rw [RK_all (by decide)]
    exact RK_le (by simp) (by simp) s.length s (Nat.le_refl _)
  have h2 : (Lib.replaceAll (Lib.replaceAll s [13, 10] [10]) [13] [10]).length ≤ s.length := by
    rw [RK_all (by decide)]
    exact Nat.le_trans (RK_le (by simp) (by simp) _ _ (Nat.le_refl _)) h1
  obtain ⟨i1, i2⟩ := linesD_le s.length s (Nat.le_refl _) []
  rw [e] at i1 i2
  have := ep38 s (l0 := l) (r := r) (by rw [lines38_eq, e]) (by omega) (by omega) (by omega) (fun x hx => by have := i1 x hx; simp at this; omega) (by simp at i2; omega) H
  unfold blockF
  rw [e]
  exact this
end T
