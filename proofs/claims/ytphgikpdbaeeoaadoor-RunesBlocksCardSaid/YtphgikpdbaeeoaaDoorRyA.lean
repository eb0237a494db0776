import Derived.Test.YtphgikpdbaeeoaaDoorRdX
import Derived.Test.YtphgikpdbaeeoaaDoorOrE
set_option linter.all false
set_option linter.unusedVariables false
set_option linter.unusedSimpArgs false
set_option maxRecDepth 10000
namespace T
open Go Go.Aes Go.Proofs

/-! ### with Split, ReplaceAll and Join asked first, too -/
noncomputable abbrev EP4 : CallF := evO X OD2 OF4 PS
theorem up4 {g : Nat} {al : List AV} {H : AH} {r : Res} (h : EP g al H = some r) : EP4 g al H = some r := evO_sub (fun _ _ _ _ h => OF3_4 _ _ _ _ (OF2_3 _ _ _ _ h)) _ _ _ _ h
theorem ep63 (s old new : Str) (h1 : s.length < 4294967281) (h2 : 0 < old.length) (h3 : s.length + Lib.count s old * new.length ≤ 140737488355328) (H : AH) :
    EP4 63 [.str s, .str old, .str new] H = some (.val (.str (Lib.replaceAll s old new)) H) := by
  refine evO_O rfl ?_
  show oRA [.str s, .str old, .str new] H = _
  unfold oRA
  have : (s.length.blt 4294967281 && Nat.blt 0 old.length && (s.length + Lib.count s old * new.length).ble 140737488355328) = true := by
    simp only [Bool.and_eq_true, Nat.blt_eq, Nat.ble_eq]
    exact ⟨⟨h1, h2⟩, h3⟩
  simp only [this, cond_true]
theorem ep62 {H : AH} [IsFn H] (s sep : Str) (h1 : s.length < 4294967281) (h2 : 0 < sep.length) :
    EP4 62 [.str s, .str sep] H = some (.val (.hsl H.nx 0 (Lib.split s sep).length (Lib.split s sep).length 1 true) (H.push (.cells ((Lib.split s sep).map .str)))) := by
  refine evO_O rfl ?_
  show oSP [.str s, .str sep] H = _
  unfold oSP
  have : (s.length.blt 4294967281 && Nat.blt 0 sep.length) = true := by
    simp only [Bool.and_eq_true, Nat.blt_eq]
    exact ⟨h1, h2⟩
  simp only [this, cond_true]
  rw [new_i]
  rfl
theorem ep66 {H : AH} {i o n c : Nat} {g : Bool} {cs : List AV} {xs : List Str} {sep : Str} (hg : H.get i = some (.cells cs)) (hx : (cs.drop o).take n = xs.map .str) (hn : xs.length = n) (h1 : n ≤ 140737488355328) (h2 : (Lib.join xs sep).length ≤ 140737488355328) :
    EP4 66 [.hsl i o n c 1 g, .str sep] H = some (.val (.str (Lib.join xs sep)) H) := by
  refine evO_O rfl ?_
  show oJN [.hsl i o n c 1 g, .str sep] H = _
  unfold oJN
  simp only [hg, hx, strsOf_map, Option.bind_some]
  have : (xs.length.beq n && n.ble 140737488355328 && (Lib.join xs sep).length.ble 140737488355328) = true := by
    simp only [Bool.and_eq_true, Nat.beq_eq, Nat.ble_eq]
    exact ⟨⟨hn, h1⟩, h2⟩
  simp only [this, cond_true]

/-! ### a slice of the heap's, cut -/
theorem slcH_lo (i o n c : Nat) (g : Bool) (a : Nat) (h : a ≤ n) (k : AV → Prop) : qSlc Tryd.t22.desc 1 (.hsl i o n c 1 g) (some (.int .i64 (a : Int))) none none k = k (.hsl i (o + a) (n - a) (c - a) 1 g) := by
  have hb : bnd (some (.int .i64 (a : Int))) 0 n = some a := by
    have : a.ble n = true := by simpa using h
    simp [bnd, asN, this]
  have : sliceD Tryd.t22.desc 1 (.hsl i o n c 1 g) (some (.int .i64 (a : Int))) none none = some (.hsl i (o + a) (n - a) (c - a) 1 g) := by
    show (match bnd none n c with
      | none => none
      | some h => match bnd (some (.int .i64 (a : Int))) 0 h with
        | none => none
        | some l => some (AV.hsl i (o + l * 1) (h - l) (c - l) 1 g)) = _
    simp only [bnd] at hb ⊢
    rw [hb]
    simp
  unfold qSlc
  rw [this, qO_some]
theorem slcH_hi (i o n c : Nat) (g : Bool) (a : Nat) (h : a ≤ c) (k : AV → Prop) : qSlc Tryd.t22.desc 1 (.hsl i o n c 1 g) none (some (.int .i64 (a : Int))) none k = k (.hsl i o a c 1 g) := by
  have hb : bnd (some (.int .i64 (a : Int))) n c = some a := by
    have : a.ble c = true := by simpa using h
    simp [bnd, asN, this]
  have : sliceD Tryd.t22.desc 1 (.hsl i o n c 1 g) none (some (.int .i64 (a : Int))) none = some (.hsl i o a c 1 g) := by
    show (match bnd (some (.int .i64 (a : Int))) n c with
      | none => none
      | some h => match bnd none 0 h with
        | none => none
        | some l => some (AV.hsl i (o + l * 1) (h - l) (c - l) 1 g)) = _
    rw [hb]
    simp [bnd]
  unfold qSlc
  rw [this, qO_some]

/-! ### how far a line is put in -/
def isW (c : UInt8) : Bool := decide (c = 32) || decide (c = 9)
def ind (s : Str) : Nat := (s.takeWhile isW).length
def blank (s : Str) : Bool := decide (ind s = s.length)
theorem ind_le (s : Str) : ind s ≤ s.length := by
  unfold ind
  induction s with
  | nil => simp
  | cons a s ih =>
    rw [List.takeWhile_cons]
    cases isW a <;> simp [ih]
theorem ind_drop (s : Str) : s.dropWhile isW = s.drop (ind s) := by
  unfold ind
  induction s with
  | nil => rfl
  | cons a s ih =>
    rw [List.dropWhile_cons, List.takeWhile_cons]
    cases isW a <;> simp [ih]
theorem ind_at {s : Str} {i : Nat} {c : UInt8} (h : s[i]? = some c) : ind (s.drop i) = if isW c then ind (s.drop (i + 1)) + 1 else 0 := by
  have hl := (List.getElem?_eq_some_iff.1 h).1
  rw [List.drop_eq_getElem_cons hl]
  have := List.getElem?_eq_getElem hl
  rw [h] at this
  injection this with this
  rw [← this]
  unfold ind
  rw [List.takeWhile_cons]
  cases isW c <;> simp

theorem ep64 (s : Str) (hl : s.length < 1000000000000) (H : AH) : EP 64 [.str s] H = some (.val (.int .i64 (ind s : Int)) H) := by
  refine uo_form e64 xf64 rfl rfl rfl rfl ?_ H
  simp only [AV.kills, AV.kill]
  have ht := fun H => ep70 s 32 9 [] (by decide) (by decide) H
  have hd : s.dropWhile [32, 9].contains = s.drop (ind s) := by
    rw [← ind_drop]
    congr 1
    funext c
    simp [isW]
  rw [hd] at ht
  have hle := ind_le s
  have hw : IntKind.i64.wrap ((s.length : Int) - ((s.drop (ind s)).length : Int)) = (ind s : Int) := by
    rw [i64_in' (by simp; omega)]
    simp; omega
  simp -implicitDefEqProofs only [c64, r64_0, r64_1, opn_z, opn_s, sel_z, sel_s, qFn_eq, qRes_val, qSub_int, qLenS_str, AV.kill, ht, hw]
theorem ep65 (s : Str) (hl : s.length < 1000000000000) (H : AH) : EP 65 [.str s] H = some (.val (.bool (blank s)) H) := by
  refine uo_form e65 xf65 rfl rfl rfl rfl ?_ H
  simp only [AV.kills, AV.kill]
  have e64 := fun H => ep64 s hl H
  have hb : (((ind s : Nat) : Int) == (s.length : Int)) = blank s := by
    unfold blank
    rw [Bool.eq_iff_iff]
    simp
    omega
  simp -implicitDefEqProofs only [c65, r65_0, r65_1, opn_z, opn_s, sel_z, sel_s, qFn_eq, qRes_val, qEql_int, qLenS_str, AV.kill, e64, hb]
theorem ep68 (s : Str) (hl : s.length < 1000000000000) (H : AH) : EP 68 [.str s] H = some (.val (.int .i64 (ind s : Int)) H) := by
  refine uo_form (X := X) (D := OD2) (O := OF2) (S := PS) (al := [.str s]) e68 xf68 rfl rfl rfl rfl ?_ H
  simp only [AV.kills, AV.kill]
  simp -implicitDefEqProofs only [c68, r68_0, r68_1, opn_z, opn_s, qFn_eq, qBl_eq]
  refine loop_inv (fun m fr H' => ∃ (i : Nat) (x2 x19 : AV), m = s.length - i ∧ i ≤ s.length ∧ fr = [.str s, x2, .int .i64 (i : Int), x19] ∧ ind s = i + ind (s.drop i)) ?_ (m := s.length) ?_
  case refine_2 => exact ⟨0, _, _, rfl, by omega, rfl, by simp⟩
  rintro m fr H' k ⟨i, x2, x19, rfl, hi, rfl, hX⟩ hk
  rcases Nat.lt_or_ge i s.length with h | h
  case inr =>
    have c1 : ¬ (i : Int) < (s.length : Int) := by omega
    obtain rfl : i = s.length := by omega
    have h0 : ind (s.drop s.length) = 0 := by rw [List.drop_length]; rfl
    rw [h0, Nat.add_zero] at hX
    simp -implicitDefEqProofs only [l68_4, r68_2, r68_4, opn_z, opn_s, sel_z, sel_s, qCd_eq, qIf_false, qBl_eq, qPick_false, qG_ft, qLss_int, qLenS_str, qG_un, c1, decide_false, AV.kill]
    rw [hX]
  have c1 : (i : Int) < (s.length : Int) := by omega
  obtain ⟨c, hc⟩ : ∃ c, s[i]? = some c := ⟨_, List.getElem?_eq_getElem h⟩
  rw [ind_at hc] at hX
  have ix := fun k => qIx_str (R := Prop) hc k
  have hw := wrap_up i (by omega)
  have q1 : (((c.toNat : Nat) : Int) == 32) = decide (c = 32) := by rw [Bool.eq_iff_iff, decide_eq_true_eq, beq_iff_eq, ← UInt8.toNat_inj]; show _ ↔ c.toNat = 32; omega
  have q2 : (((c.toNat : Nat) : Int) == 9) = decide (c = 9) := by rw [Bool.eq_iff_iff, decide_eq_true_eq, beq_iff_eq, ← UInt8.toNat_inj]; show _ ↔ c.toNat = 9; omega
  by_cases h1 : c = 32
  · rw [decide_eq_true h1] at q1
    have hW : isW c = true := by simp [isW, h1]
    rw [if_pos hW] at hX
    simp -implicitDefEqProofs only [l68_4, r68_2, r68_3, opn_z, opn_s, sel_z, sel_s, qCd_eq, qIf_true, qBl_eq, qPick_true, qG_tt, qG_tf, qLss_int, qEql_int, qAdd_int, qLenS_str, c1, decide_true, ix, q1, hw]
    exact hk (s.length - (i + 1)) _ _ (by omega) ⟨i + 1, _, _, rfl, h, rfl, by omega⟩
  rw [decide_eq_false h1] at q1
  by_cases h2 : c = 9
  · rw [decide_eq_true h2] at q2
    have hW : isW c = true := by simp [isW, h2]
    rw [if_pos hW] at hX
    simp -implicitDefEqProofs only [l68_4, r68_2, r68_3, opn_z, opn_s, sel_z, sel_s, qCd_eq, qIf_true, qBl_eq, qPick_true, qPick_false, qG_tt, qG_ff, qLss_int, qEql_int, qAdd_int, qLenS_str, c1, decide_true, ix, q1, q2, hw]
    exact hk (s.length - (i + 1)) _ _ (by omega) ⟨i + 1, _, _, rfl, h, rfl, by omega⟩
  rw [decide_eq_false h2] at q2
  have hW : ¬ isW c = true := by simp [isW, h1, h2]
  rw [if_neg hW, Nat.add_zero] at hX
  simp -implicitDefEqProofs only [l68_4, r68_2, r68_4, opn_z, opn_s, sel_z, sel_s, qCd_eq, qIf_false, qBl_eq, qPick_true, qPick_false, qG_tt, qG_ff, qLss_int, qEql_int, qLenS_str, c1, decide_true, ix, q1, q2, AV.kill]
  rw [hX]
end T
