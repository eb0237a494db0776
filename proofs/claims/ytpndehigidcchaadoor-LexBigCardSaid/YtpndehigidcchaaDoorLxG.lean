import Derived.Test.YtpndehigidcchaaDoorLxF
set_option linter.all false
set_option linter.unusedVariables false
set_option linter.unusedSimpArgs false
set_option maxRecDepth 10000
namespace T
open Go Go.Aes Go.Proofs

/-! ### LexBig, plainly -/
def chB (st j : Nat) : UInt8 := if j % st = 0 then 97 else 32
def bigS (st : Nat) : Nat → Nat → Str
  | _, 0 => []
  | j, m + 1 => chB st j :: bigS st (j + 1) m
def nmS (st : Nat) : Nat → Nat → Nat
  | _, 0 => 0
  | j, m + 1 => (if j % st = 0 then 1 else 0) + nmS st (j + 1) m
theorem bigS_len (st : Nat) : ∀ m j, (bigS st j m).length = m
  | 0, j => rfl
  | m + 1, j => by simp [bigS, bigS_len st m]
theorem bigS_snoc (st : Nat) : ∀ m j, bigS st j (m + 1) = bigS st j m ++ [chB st (j + m)]
  | 0, j => rfl
  | m + 1, j => by
    show chB st j :: bigS st (j + 1) (m + 1) = chB st j :: bigS st (j + 1) m ++ _
    rw [bigS_snoc st m (j + 1), show j + 1 + m = j + (m + 1) by omega]
    rfl
theorem nmS_snoc (st : Nat) : ∀ m j, nmS st j (m + 1) = nmS st j m + (if (j + m) % st = 0 then 1 else 0)
  | 0, j => by simp [nmS]
  | m + 1, j => by
    show (if j % st = 0 then 1 else 0) + nmS st (j + 1) (m + 1) = (if j % st = 0 then 1 else 0) + nmS st (j + 1) m + _
    rw [nmS_snoc st m (j + 1), show j + 1 + m = j + (m + 1) by omega]
    omega
theorem nmS_le (st : Nat) : ∀ m j, nmS st j m ≤ m
  | 0, j => by simp [nmS]
  | m + 1, j => by
    have := nmS_le st m (j + 1)
    simp only [nmS]
    split <;> omega
theorem next_mod {st j : Nat} (h2 : 2 ≤ st) (h : j % st = 0) : ¬ (j + 1) % st = 0 := by
  rw [Nat.add_mod, h, Nat.zero_add, Nat.mod_mod, Nat.mod_eq_of_lt (by omega)]
  omega
theorem big_law (st : Nat) (h2 : 2 ≤ st) : ∀ m j p, ∃ l, lexF (bigS st j m) p = .inr l ∧ l.length = nmS st j m
  | 0, j, p => ⟨[], rfl, rfl⟩
  | m + 1, j, p => by
    obtain ⟨l, h3, h4⟩ := big_law st h2 m (j + 1) (p + 1)
    by_cases h : j % st = 0
    · have e : bigS st j (m + 1) = 97 :: bigS st (j + 1) m := by simp [bigS, chB, h]
      refine ⟨(1, [97], p) :: l, ?_, by simp [nmS, h, h4]; omega⟩
      rw [e, lex_a _ (fun d y hd => by
        cases m with
        | zero => cases hd
        | succ m =>
          have : bigS st (j + 1) (m + 1) = 32 :: bigS st (j + 1 + 1) m := by simp [bigS, chB, next_mod h2 h]
          rw [this] at hd
          injection hd with hd
          subst hd
          decide), h3]
    · have e : bigS st j (m + 1) = 32 :: bigS st (j + 1) m := by simp [bigS, chB, h]
      exact ⟨l, by rw [e, lex_blank (by decide)]; exact h3, by simp [nmS, h, h4]⟩

/-! ### LexBig walked -/
theorem mkB {H : AH} [IsFn H] (n : Nat) (hn : n < 1000000) (k : AV → AH → Prop) : qMkS z5 1 1 (.int .i64 (n : Int)) (.int .i64 (n : Int)) H k = k (.hsl H.nx 0 n n 1 true) (H.push (.cells (bys (List.replicate n 0)))) := by
  have ha : asN (.int .i64 (n : Int)) = some n := by simp [asN]
  have hb : (n * (1 + 1)).blt most = true := by rw [Nat.blt_eq]; unfold most; omega
  have hc : (List.replicate n z5).flatten = bys (List.replicate n 0) := by
    induction n with
    | zero => rfl
    | succ n ih =>
      rw [List.replicate_succ, List.flatten_cons, ih (by omega) (by simp [asN]) (by rw [Nat.blt_eq]; unfold most; omega)]
      rfl
  unfold qMkS
  rw [ha, qO_some, qO_some, hb, hc]
  simp only [Nat.beq_refl, Bool.true_and]
  exact qNew_i _ _ _
theorem qIa_h (i n c j : Nat) (g : Bool) (h : j < n) (k : AV → Prop) : qIa 1 (.hsl i 0 n c 1 g) (.int .i64 (j : Int)) k = k (.ptr i j) := by
  rw [qIa_hsl (R := Prop) .i64 k 1 i 0 n c g j h]
  simp
theorem rowsOf_bys : ∀ s : Str, rowsOf 1 s.length (bys s) = byR s
  | [] => rfl
  | b :: s => by
    show (bys (b :: s)).take 1 :: rowsOf 1 s.length ((bys (b :: s)).drop 1) = _
    show _ :: rowsOf 1 s.length (bys s) = _
    rw [rowsOf_bys s]
    rfl
theorem bytesOf_byR : ∀ l : Str, bytesOf (byR l) = some l
  | [] => rfl
  | b :: l => by
    show (bytesOf (byR l)).map (UInt8.ofNat (((b.toNat : Nat) : Int)).toNat :: ·) = _
    rw [bytesOf_byR l]
    simp
theorem bstr_h {H : AH} {i : Nat} {s : Str} (hg : H.get i = some (.cells (bys s))) (c : Nat) (g : Bool) (k : AV → Prop) : qBstr (.hsl i 0 s.length c 1 g) H k = k (.str s) := by
  have hsl : slice? (bys s) 0 (s.length * 1) = some (bys s) := slice_whole _ _ (by rw [bys_len]; omega)
  have h1 : readRows 1 (.hsl i 0 s.length c 1 g) H = some (byR s) := by
    simp only [readRows, hg, hsl, Nat.beq_refl, cond_true, Option.map_some, rowsOf_bys]
  show (bif true then qO (readRows 1 (.hsl i 0 s.length c 1 g) H) fun rows => qO (bytesOf rows) fun s => k (.str s) else fail) = _
  simp only [cond_true, h1, qO_some, bytesOf_byR]
theorem bys_set (s : Str) (i : Nat) (b : UInt8) : (bys s).set i (.int .u8 b.toNat) = bys (s.set i b) := by
  unfold bys
  rw [List.map_set]
def halfS (st n i : Nat) : Str := bigS st 0 i ++ List.replicate (n - i) 0
theorem half_set {st n i : Nat} (h : i < n) (b : UInt8) : (halfS st n i).set i b = bigS st 0 i ++ b :: List.replicate (n - (i + 1)) 0 := by
  unfold halfS
  rw [List.set_append, if_neg (by rw [bigS_len]; omega), bigS_len, Nat.sub_self, show n - i = (n - (i + 1)) + 1 by omega, List.replicate_succ]
  rfl
theorem half_next {st n i : Nat} (h : i < n) : halfS st n (i + 1) = bigS st 0 i ++ chB st i :: List.replicate (n - (i + 1)) 0 := by
  unfold halfS
  rw [bigS_snoc, Nat.zero_add]
  simp
theorem half_len {st n i : Nat} (h : i ≤ n) : (halfS st n i).length = n := by
  unfold halfS
  rw [List.length_append, bigS_len, List.length_replicate]
  omega
set_option maxHeartbeats 2000000 in
theorem law5 (a b : Int) : c5 EP4 [.int .i64 a, .int .i64 b] H0 (fun v _ => v = .bool true) := by
  obtain ⟨p, hp, e7⟩ := place4 a 5 (by omega) (by omega)
  obtain ⟨q, hq, e7b⟩ := place4 b 30 (by omega) (by omega)
  have w1 : IntKind.i64.wrap (7998 + (p : Int)) = ((7998 + p : Nat) : Int) := by rw [i64_in' (by omega)]; omega
  have w2 : IntKind.i64.wrap (2 + (q : Int)) = ((2 + q : Nat) : Int) := by rw [i64_in' (by omega)]; omega
  obtain ⟨n, hn⟩ : ∃ n, n = 7998 + p := ⟨_, rfl⟩
  obtain ⟨st, hst⟩ : ∃ st, st = 2 + q := ⟨_, rfl⟩
  rw [← hn] at w1
  rw [← hst] at w2
  have mk := fun k => mkB (H := H0) n (by omega) k
  have hg0 := get_push_at (H := H0) (.cells (bys (List.replicate n 0)))
  have hif : IsFn (H0.push (.cells (bys (List.replicate n 0)))) := inferInstance
  simp -implicitDefEqProofs only [c5, r5_0, r5_1, r5_2, r5_3, r5_4, r5_5, opn_z, opn_s, qFn_eq, qBl_eq, qRes_val, qAdd_int, e7, w1, mk, e7b, w2]
  generalize H0.nx = bb at *
  generalize H0.push (.cells (bys (List.replicate n 0))) = H1 at *
  refine loop_inv (fun m fr H' => ∃ (i : Nat) (x10 x11 x12 x23 x32 x46 : AV), m + i = n ∧ fr = [.int .i64 a, .int .i64 b, .bool false, .int .i64 (n : Int), .hsl bb 0 n n 1 true, .int .i64 (nmS st 0 i : Int), .int .i64 (st : Int), .int .i64 (i : Int), x10, x11, x12, x23, x32, x46] ∧ IsFn H' ∧
    H'.get bb = some (.cells (bys (halfS st n i)))) ?_ (m := n) ?_
  case refine_2 => exact ⟨0, _, _, _, _, _, _, rfl, rfl, hif, hg0⟩
  rintro m fr H' k ⟨i, x10, x11, x12, x23, x32, x46, hm, rfl, hf, hg⟩ hk
  by_cases h : i < n
  · have c1 : (i : Int) < (n : Int) := by omega
    have ia := fun k => qIa_h bb n n i true h k
    have hln := half_len (st := st) (Nat.le_of_lt h)
    have s1 := fun k => qSt_1 (R := Prop) (v := .int .u8 ((32 : UInt8).toNat : Int)) hg (o := i) (by rw [bys_len]; omega) rfl k
    rw [bys_set, half_set h] at s1
    have e32 : (((32 : UInt8).toNat : Nat) : Int) = 32 := rfl
    rw [e32] at s1
    have hg1 : (H'.set bb (some (.cells (bys (bigS st 0 i ++ 32 :: List.replicate (n - (i + 1)) 0))))).get bb = some (.cells (bys (bigS st 0 i ++ 32 :: List.replicate (n - (i + 1)) 0))) := by rw [get_set_i (lt_i hg), if_pos rfl]
    have hf1 : IsFn (H'.set bb (some (.cells (bys (bigS st 0 i ++ 32 :: List.replicate (n - (i + 1)) 0))))) := inferInstance
    generalize H'.set bb (some (.cells (bys (bigS st 0 i ++ 32 :: List.replicate (n - (i + 1)) 0)))) = H2 at *
    have rm := fun k => qRem_int (R := Prop) X 3 .i64 (i : Int) (st : Int) k (by omega)
    have hmod : ((i : Int)).tmod (st : Int) = ((i % st : Nat) : Int) := by
      rw [Int.tmod_eq_emod_of_nonneg (by omega)]
      exact (Int.natCast_emod i st).symm
    rw [hmod] at rm
    have wi : IntKind.i64.wrap ((i : Int) + 1) = ((i + 1 : Nat) : Int) := by rw [i64_in' (by omega)]; omega
    have hnl := nmS_le st i 0
    have hnx := half_next (st := st) h
    have hns := nmS_snoc st i 0
    rw [Nat.zero_add] at hns
    by_cases hz : i % st = 0
    · have c2 : (((i % st : Nat) : Int) == 0) = true := by rw [hz]; rfl
      have s2 := fun k => qSt_1 (R := Prop) (v := .int .u8 ((97 : UInt8).toNat : Int)) hg1 (o := i) (by rw [bys_len, List.length_append, bigS_len, List.length_cons, List.length_replicate]; omega) rfl k
      have hset : (bigS st 0 i ++ 32 :: List.replicate (n - (i + 1)) 0).set i 97 = halfS st n (i + 1) := by
        rw [hnx, List.set_append, if_neg (by rw [bigS_len]; omega), bigS_len, Nat.sub_self]
        simp [chB, hz]
      rw [bys_set, hset] at s2
      have e97 : (((97 : UInt8).toNat : Nat) : Int) = 97 := rfl
      rw [e97] at s2
      rw [if_pos hz] at hns
      have wn : IntKind.i64.wrap ((nmS st 0 i : Int) + 1) = ((nmS st 0 (i + 1) : Nat) : Int) := by rw [i64_in' (by omega), hns]; omega
      simp -implicitDefEqProofs only [l5_6, r5_6, r5_8, r5_9, r5_10, r5_11, r5_7, opn_z, opn_s, sel_z, sel_s, qCd_eq, qIf_true, qBl_eq, qLss_int, qEql_int, qAdd_int, c1, decide_true, ia, s1, rm, c2, s2, wn, wi]
      exact hk (m - 1) _ _ (by omega) ⟨i + 1, _, _, _, _, _, _, by omega, rfl, inferInstance, by rw [get_set_i (lt_i hg1), if_pos rfl]⟩
    · have c2 : (((i % st : Nat) : Int) == 0) = false := by simp; omega
      have hset : bigS st 0 i ++ 32 :: List.replicate (n - (i + 1)) 0 = halfS st n (i + 1) := by
        rw [hnx]
        simp [chB, hz]
      rw [hset] at hg1
      rw [if_neg hz] at hns
      have hns' : nmS st 0 i = nmS st 0 (i + 1) := hns.symm
      rw [hns']
      simp -implicitDefEqProofs only [l5_6, r5_6, r5_8, r5_9, r5_7, opn_z, opn_s, sel_z, sel_s, qCd_eq, qIf_true, qIf_false, qBl_eq, qLss_int, qEql_int, qAdd_int, c1, decide_true, ia, s1, rm, c2, wi]
      exact hk (m - 1) _ _ (by omega) ⟨i + 1, _, _, _, _, _, _, by omega, rfl, hf1, hg1⟩
  · have c1 : ¬ (i : Int) < (n : Int) := by omega
    obtain rfl : i = n := by omega
    have hfull : halfS st i i = bigS st 0 i := by unfold halfS; simp
    rw [hfull] at hg
    have hlen := bigS_len st i 0
    have bs : ∀ k : AV → Prop, qBstr (.hsl bb 0 i i 1 true) H' k = k (.str (bigS st 0 i)) := fun k => by
      have := bstr_h hg i true k
      rwa [hlen] at this
    obtain ⟨l, hl, hll⟩ := big_law st (by omega) i 0 0
    obtain ⟨v, H3, e8, hkp, hok⟩ := epAll (bigS st 0 i) (H := H')
    unfold AllOk at hok
    rw [hlen, hl] at hok
    have c0 : ((0 : Int) == 0) = true := rfl
    by_cases h8 : 8000 < i
    · have c8 : (i : Int) > 8000 := by omega
      rw [if_pos h8] at hok
      subst hok
      have c3 : ((3 : Int) == 3) = true := rfl
      have c4 : (((0 : Nat) : Int) == 0) = true := rfl
      simp -implicitDefEqProofs only [l5_6, r5_6, r5_12, r5_13, r5_14, opn_z, opn_s, sel_z, sel_s, qCd_eq, qIf_true, qIf_false, qBl_eq, qO_some, qRes_val, qPick_true, qG_tt, qExt_tup, qLss_int, qGtr_int, qEql_int, qLenL_sl, List.getElem?_cons_zero, List.getElem?_cons_succ, List.length_nil, c1, decide_false, bs, e8, c8, decide_true, c3, c0, c4, awk4]
    · have c8 : ¬ (i : Int) > 8000 := by omega
      rw [if_neg h8] at hok
      obtain ⟨lv, rfl, ho⟩ := hok
      obtain ⟨tk, rfl⟩ := ho.sl
      have c4 : (((l.map tokR).length : Int) == (nmS st 0 i : Int)) = true := by rw [List.length_map, hll]; simp
      simp -implicitDefEqProofs only [l5_6, r5_6, r5_12, r5_13, r5_15, opn_z, opn_s, sel_z, sel_s, qCd_eq, qIf_false, qBl_eq, qO_some, qRes_val, qPick_true, qG_tt, qExt_tup, qLss_int, qGtr_int, qEql_int, qLenL_sl, List.getElem?_cons_zero, List.getElem?_cons_succ, c1, decide_false, bs, e8, c8, c0, c4, awk4]
theorem ev_big (a b : Int) : ∃ H', EP4 5 [.int .i64 a, .int .i64 b] H0 = some (.val (.bool true) H') := by
  obtain ⟨w, H', h1, h2⟩ := ao_form (X := X) (D := OD2) (O := OF4) (S := PS) (al := [.int .i64 a, .int .i64 b]) (H := H0) e5 xf5 rfl rfl (Q := fun v _ => v = .bool true) (law5 a b)
  subst h2
  exact ⟨H', h1⟩
end T
