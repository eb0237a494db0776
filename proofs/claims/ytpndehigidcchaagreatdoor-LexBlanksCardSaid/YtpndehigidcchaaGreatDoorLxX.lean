import Derived.Test.YtpndehigidcchaaGreatDoorRyX
import Derived.Test.YtpndehigidcchaaGreatDoorRuX
import Derived.Test.YtpndehigidcchaaGreatDoorRdX
set_option linter.all false
set_option linter.unusedVariables false
set_option linter.unusedSimpArgs false
set_option maxRecDepth 10000
namespace T
open Go Go.Aes Go.Proofs
def lxL (c : UInt8) : Bool := (decide (97 ≤ c.toNat) && decide (c.toNat ≤ 122)) || (decide (65 ≤ c.toNat) && decide (c.toNat ≤ 90)) || decide (c.toNat = 95) || isD c
def lxN (c : UInt8) : Bool := lxL c || [46, 43, 45].contains c
def lxB (c : UInt8) : Bool := [32, 9, 10, 13, 44].contains c
def lxH (c : UInt8) : Bool := !decide (c = 10) && !decide (c = 13)
def lxS (c : UInt8) : Bool := [33, 36, 38, 40, 41, 58, 61, 64, 91, 93, 123, 124, 125].contains c
def ctl (c : UInt8) : Bool := decide (c.toNat < 32) && !decide (c = 9) && !decide (c = 10) && !decide (c = 13)
def spn (p : UInt8 → Bool) (s : Str) : Nat := (s.takeWhile p).length
theorem spn_le (p : UInt8 → Bool) : ∀ s : Str, spn p s ≤ s.length
  | [] => by simp [spn]
  | c :: s => by
    have := spn_le p s
    unfold spn at this ⊢
    rw [List.takeWhile_cons]
    split <;> simp <;> omega
theorem spn_cons (p : UInt8 → Bool) (c : UInt8) (s : Str) : spn p (c :: s) = if p c then spn p s + 1 else 0 := by
  unfold spn
  rw [List.takeWhile_cons]
  split <;> simp
theorem spn_nil (p : UInt8 → Bool) : spn p [] = 0 := rfl
def blkN : Nat → Str → Option (Str × Nat)
  | 0, _ => none
  | _ + 1, [] => none
  | n + 1, b :: r =>
    if hp (b :: r) [92, 34, 34, 34] then (blkN n (r.drop 3)).map fun q => (34 :: 34 :: 34 :: q.1, q.2 + 4)
    else if hp (b :: r) [34, 34, 34] then some ([], 3)
    else (blkN n r).map fun q => (b :: q.1, q.2 + 1)
def bkF (s : Str) : Option (Str × Nat) := blkN s.length s
theorem blkN_eq : ∀ (n m : Nat) (s : Str), s.length ≤ n → s.length ≤ m → blkN n s = blkN m s
  | 0, 0, s, _, _ => rfl
  | 0, m + 1, s, h, _ => by
    obtain rfl : s = [] := List.eq_nil_of_length_eq_zero (by omega)
    rfl
  | n + 1, 0, s, _, h => by
    obtain rfl : s = [] := List.eq_nil_of_length_eq_zero (by omega)
    rfl
  | n + 1, m + 1, [], _, _ => rfl
  | n + 1, m + 1, b :: r, h1, h2 => by
    simp only [List.length_cons] at h1 h2
    simp only [blkN]
    rw [blkN_eq n m r (by omega) (by omega), blkN_eq n m (r.drop 3) (by rw [List.length_drop]; omega) (by rw [List.length_drop]; omega)]
theorem bkF_cons (b : UInt8) (r : Str) : bkF (b :: r) = if hp (b :: r) [92, 34, 34, 34] then (bkF (r.drop 3)).map fun q => (34 :: 34 :: 34 :: q.1, q.2 + 4)
    else if hp (b :: r) [34, 34, 34] then some ([], 3)
    else (bkF r).map fun q => (b :: q.1, q.2 + 1) := by
  show blkN (r.length + 1) (b :: r) = _
  simp only [blkN]
  rw [blkN_eq r.length (r.drop 3).length (r.drop 3) (by rw [List.length_drop]; omega) (Nat.le_refl _)]
  rfl
theorem bkF_le : ∀ (n : Nat) (s : Str), s.length ≤ n → ∀ t k, bkF s = some (t, k) → k ≤ s.length ∧ t.length ≤ s.length ∧ 3 ≤ k
  | _, [], _, t, k, h => by cases h
  | 0, b :: r, hn, _, _, _ => by simp at hn
  | n + 1, b :: r, hn, t, k, h => by
    simp only [List.length_cons] at hn ⊢
    rw [bkF_cons] at h
    by_cases h1 : hp (b :: r) [92, 34, 34, 34] = true
    · rw [if_pos h1] at h
      have hl := hp_le h1
      simp only [List.length_cons, List.length_nil] at hl
      cases hb : bkF (r.drop 3) with
      | none => rw [hb] at h; cases h
      | some q =>
        rw [hb] at h
        simp only [Option.map_some, Option.some.injEq, Prod.mk.injEq] at h
        obtain ⟨rfl, rfl⟩ := h
        have := bkF_le n (r.drop 3) (by rw [List.length_drop]; omega) q.1 q.2 hb
        simp only [List.length_drop, List.length_cons] at this ⊢
        omega
    · rw [if_neg h1] at h
      by_cases h2 : hp (b :: r) [34, 34, 34] = true
      · rw [if_pos h2] at h
        have hl := hp_le h2
        simp only [List.length_cons, List.length_nil] at hl
        simp only [Option.some.injEq, Prod.mk.injEq] at h
        obtain ⟨rfl, rfl⟩ := h
        simp; omega
      · rw [if_neg h2] at h
        cases hb : bkF r with
        | none => rw [hb] at h; cases h
        | some q =>
          rw [hb] at h
          simp only [Option.map_some, Option.some.injEq, Prod.mk.injEq] at h
          obtain ⟨rfl, rfl⟩ := h
          have := bkF_le n r (by omega) q.1 q.2 hb
          simp only [List.length_cons]
          omega
def linF : Str → Option Nat
  | [] => none
  | b :: r => if b = 34 then some 0 else if b = 92 then (match r with
    | [] => none
    | _ :: t => (linF t).map (· + 2)) else (linF r).map (· + 1)
theorem linF_lt : ∀ (n : Nat) (s : Str), s.length ≤ n → ∀ k, linF s = some k → k < s.length ∧ s[k]? = some 34
  | _, [], _, k, h => by cases h
  | 0, b :: r, hn, _, _ => by simp at hn
  | n + 1, b :: r, hn, k, h => by
    simp only [List.length_cons] at hn ⊢
    unfold linF at h
    by_cases h1 : b = 34
    · rw [if_pos h1] at h
      injection h with h
      subst h; subst h1
      exact ⟨by omega, rfl⟩
    · rw [if_neg h1] at h
      by_cases h2 : b = 92
      · rw [if_pos h2] at h
        cases r with
        | nil => cases h
        | cons c t =>
          simp only at h
          cases hl : linF t with
          | none => rw [hl] at h; cases h
          | some j =>
            rw [hl] at h
            simp only [Option.map_some, Option.some.injEq] at h
            subst h
            simp only [List.length_cons] at hn ⊢
            have := linF_lt n t (by omega) j hl
            exact ⟨by omega, by simpa using this.2⟩
      · rw [if_neg h2] at h
        cases hl : linF r with
        | none => rw [hl] at h; cases h
        | some j =>
          rw [hl] at h
          simp only [Option.map_some, Option.some.injEq] at h
          subst h
          have := linF_lt n r (by omega) j hl
          exact ⟨by omega, by simpa using this.2⟩
def crlf (s : Str) : Bool := s.any fun c => decide (c = 10) || decide (c = 13)
def rawB (t : Str) : Bool := !t.any ctl && Lib.validD t
def blockT (s : Str) : Option (Str × Nat) :=
  match bkF (s.drop 3) with
  | none => none
  | some q => if rawB q.1 then some (blockF q.1, q.2 + 3) else none
def lineT (s : Str) : Option (Str × Nat) :=
  match linF (s.drop 1) with
  | none => none
  | some n => if crlf (s.take (n + 1)) then none else (uqF (s.take (n + 2))).map fun t => (t, n + 2)
abbrev Tok := Nat × Str × Nat
def tokF (s : Str) : Option Tok :=
  match s with
  | [] => none
  | c :: r =>
    if (isD c || decide (c = 45)) = true then
      if (num (s.take (spn lxN s))).2 then some (if (num (s.take (spn lxN s))).1 then 2 else 3, s.take (spn lxN s), spn lxN s) else none
    else if lxL c = true then
      if 40 < spn lxL s then none else some (1, s.take (spn lxL s), spn lxL s)
    else if hp s [34, 34, 34] = true then (blockT s).map fun q => (4, q.1, q.2)
    else if c = 34 then (lineT s).map fun q => (4, q.1, q.2)
    else if hp s [46, 46, 46] = true then some (5, [46, 46, 46], 3)
    else if lxS c = true then some (5, [c], 1) else none
theorem tokF_le {c : UInt8} {r : Str} {q : Tok} (h : tokF (c :: r) = some q) : 0 < q.2.2 ∧ q.2.2 ≤ (c :: r).length ∧ q.1 < 6 := by
  unfold tokF at h
  simp only at h
  split at h
  · rename_i hc
    have hs := spn_le lxN (c :: r)
    have hp : 0 < spn lxN (c :: r) := by
      rw [spn_cons, if_pos]
      · omega
      · simp only [Bool.or_eq_true, decide_eq_true_eq] at hc
        rcases hc with hc | rfl
        · simp [lxN, lxL, hc]
        · decide
    split at h
    · injection h with h
      subst h
      exact ⟨hp, hs, by simp only; split <;> omega⟩
    · cases h
  · split at h
    · rename_i hc
      have hs := spn_le lxL (c :: r)
      have hp : 0 < spn lxL (c :: r) := by rw [spn_cons, if_pos hc]; omega
      split at h
      · cases h
      · injection h with h
        subst h
        exact ⟨hp, hs, by simp⟩
    · split at h
      · rename_i hq
        have hl := hp_le hq
        cases hb : blockT (c :: r) with
        | none => rw [hb] at h; cases h
        | some p =>
          rw [hb] at h
          simp only [Option.map_some, Option.some.injEq] at h
          subst h
          unfold blockT at hb
          cases hk : bkF ((c :: r).drop 3) with
          | none => rw [hk] at hb; cases hb
          | some w =>
            rw [hk] at hb
            simp only at hb
            have := bkF_le _ _ (Nat.le_refl _) w.1 w.2 hk
            split at hb
            · injection hb with hb
              subst hb
              simp only [List.length_drop] at this
              simp only [List.length_cons, List.length_nil] at hl this ⊢
              omega
            · cases hb
      · split at h
        · cases hb : lineT (c :: r) with
          | none => rw [hb] at h; cases h
          | some p =>
            rw [hb] at h
            simp only [Option.map_some, Option.some.injEq] at h
            subst h
            unfold lineT at hb
            cases hk : linF ((c :: r).drop 1) with
            | none => rw [hk] at hb; cases hb
            | some w =>
              rw [hk] at hb
              simp only at hb
              have := linF_lt _ _ (Nat.le_refl _) w hk
              split at hb
              · cases hb
              · cases hu : uqF ((c :: r).take (w + 2)) with
                | none => rw [hu] at hb; cases hb
                | some u =>
                  rw [hu] at hb
                  simp only [Option.map_some, Option.some.injEq] at hb
                  subst hb
                  simp only [List.length_drop, List.length_cons] at this ⊢
                  omega
        · split at h
          · rename_i hq
            have hl := hp_le hq
            injection h with h
            subst h
            simp only [List.length_cons, List.length_nil] at hl ⊢
            omega
          · split at h
            · injection h with h
              subst h
              simp
            · cases h
def lexN : Nat → Str → Nat → Nat ⊕ List Tok
  | 0, _, _ => .inr []
  | _ + 1, [], _ => .inr []
  | n + 1, c :: r, k =>
    if lxB c = true then lexN n r (k + 1)
    else if c = 35 then lexN n (r.drop (spn lxH r)) (k + (spn lxH r + 1))
    else match tokF (c :: r) with
      | none => .inl k
      | some q => match lexN n ((c :: r).drop q.2.2) (k + q.2.2) with
        | .inl e => .inl e
        | .inr l => .inr ((q.1, q.2.1, k) :: l)
def lexF (s : Str) (k : Nat) : Nat ⊕ List Tok := lexN s.length s k
theorem lexN_eq : ∀ (n m : Nat) (s : Str), s.length ≤ n → s.length ≤ m → ∀ k, lexN n s k = lexN m s k
  | 0, 0, s, _, _, _ => rfl
  | 0, m + 1, s, h, _, _ => by
    obtain rfl : s = [] := List.eq_nil_of_length_eq_zero (by omega)
    rfl
  | n + 1, 0, s, _, h, _ => by
    obtain rfl : s = [] := List.eq_nil_of_length_eq_zero (by omega)
    rfl
  | n + 1, m + 1, [], _, _, _ => rfl
  | n + 1, m + 1, c :: r, h1, h2, k => by
    simp only [List.length_cons] at h1 h2
    simp only [lexN]
    rw [lexN_eq n m r (by omega) (by omega), lexN_eq n m (r.drop (spn lxH r)) (by rw [List.length_drop]; omega) (by rw [List.length_drop]; omega)]
    cases ht : tokF (c :: r) with
    | none => rfl
    | some q =>
      have := tokF_le ht
      simp only [List.length_cons] at this
      simp only
      rw [lexN_eq n m ((c :: r).drop q.2.2) (by rw [List.length_drop]; simp only [List.length_cons]; omega) (by rw [List.length_drop]; simp only [List.length_cons]; omega)]
theorem lexF_nil (k : Nat) : lexF [] k = .inr [] := rfl
theorem lexF_cons (c : UInt8) (r : Str) (k : Nat) : lexF (c :: r) k = if lxB c = true then lexF r (k + 1)
    else if c = 35 then lexF (r.drop (spn lxH r)) (k + (spn lxH r + 1))
    else match tokF (c :: r) with
      | none => .inl k
      | some q => match lexF ((c :: r).drop q.2.2) (k + q.2.2) with
        | .inl e => .inl e
        | .inr l => .inr ((q.1, q.2.1, k) :: l) := by
  show lexN (r.length + 1) (c :: r) k = _
  simp only [lexN]
  rw [lexN_eq r.length (r.drop (spn lxH r)).length (r.drop (spn lxH r)) (by rw [List.length_drop]; omega) (Nat.le_refl _)]
  cases ht : tokF (c :: r) with
  | none => rfl
  | some q =>
    have := tokF_le ht
    simp only [List.length_cons] at this
    simp only
    rw [lexN_eq r.length ((c :: r).drop q.2.2).length ((c :: r).drop q.2.2) (by rw [List.length_drop]; simp only [List.length_cons]; omega) (Nat.le_refl _)]
    rfl
theorem lexF_le : ∀ (n : Nat) (s : Str), s.length ≤ n → ∀ k l, lexF s k = .inr l → l.length ≤ s.length
  | _, [], _, k, l, h => by
    rw [lexF_nil] at h
    injection h with h
    subst h
    simp
  | 0, c :: r, hn, _, _, _ => by simp at hn
  | n + 1, c :: r, hn, k, l, h => by
    simp only [List.length_cons] at hn
    rw [lexF_cons] at h
    split at h
    · have := lexF_le n r (by omega) _ _ h
      simp; omega
    · split at h
      · have := lexF_le n _ (by rw [List.length_drop]; omega) _ _ h
        rw [List.length_drop] at this
        simp; omega
      · cases ht : tokF (c :: r) with
        | none => rw [ht] at h; cases h
        | some q =>
          rw [ht] at h
          simp only at h
          have hq := tokF_le ht
          cases hx : lexF ((c :: r).drop q.2.2) (k + q.2.2) with
          | inl e => rw [hx] at h; cases h
          | inr l' =>
            rw [hx] at h
            simp only [Sum.inr.injEq] at h
            subst h
            have := lexF_le n _ (by rw [List.length_drop]; simp only [List.length_cons]; omega) _ _ hx
            rw [List.length_drop] at this
            simp only [List.length_cons] at this hq ⊢
            omega
end T
set_option linter.unusedVariables false
set_option linter.unusedSimpArgs false
set_option maxRecDepth 10000
namespace T
open Go Go.Aes Go.Proofs
theorem epDig (c : UInt8) (H : AH) : EP 16 [.int .u8 (c.toNat : Int)] H = some (.val (.bool (isD c)) H) := by
  refine uo_form (X := X) (D := OD2) (O := OF2) (S := PS) (al := [.int .u8 (c.toNat : Int)]) e16 xf16 rfl rfl rfl rfl ?_ H
  simp only [AV.kills, AV.kill]
  unfold isD
  generalize c.toNat = r
  by_cases h1 : 48 ≤ r
  · have c1 : ((r : Int) ≥ 48) := by omega
    by_cases h2 : r ≤ 57
    · have c2 : ((r : Int) ≤ 57) := by omega
      simp -implicitDefEqProofs only [c16, r16_0, r16_1, opn_z, opn_s, sel_z, sel_s, qFn_eq, qPick_true, qG_tt, qLeq_int, qGeq_int, AV.kill, c1, c2, decide_true]
      simp [h1, h2]
    · have c2 : ¬ ((r : Int) ≤ 57) := by omega
      simp -implicitDefEqProofs only [c16, r16_0, r16_1, opn_z, opn_s, sel_z, sel_s, qFn_eq, qPick_true, qG_tt, qLeq_int, qGeq_int, AV.kill, c1, c2, decide_true, decide_false]
      simp [h1, h2]
  · have c1 : ¬ ((r : Int) ≥ 48) := by omega
    simp -implicitDefEqProofs only [c16, r16_0, r16_1, opn_z, opn_s, sel_z, sel_s, qFn_eq, qPick_false, qG_ft, qGeq_int, AV.kill, c1, decide_false]
    simp [h1]
theorem epLet (c : UInt8) (H : AH) : EP 18 [.int .u8 (c.toNat : Int)] H = some (.val (.bool (lxL c)) H) := by
  refine uo_form (X := X) (D := OD2) (O := OF2) (S := PS) (al := [.int .u8 (c.toNat : Int)]) e18 xf18 rfl rfl rfl rfl ?_ H
  simp only [AV.kills, AV.kill]
  unfold lxL
  have hd := epDig c
  generalize isD c = D at *
  generalize c.toNat = r at *
  by_cases h1 : 97 ≤ r
  · have c1 : ((r : Int) ≥ 97) := by omega
    by_cases h2 : r ≤ 122
    · have c2 : ((r : Int) ≤ 122) := by omega
      have hf : ((decide (97 ≤ r) && decide (r ≤ 122)) || (decide (65 ≤ r) && decide (r ≤ 90)) || decide (r = 95) || D) = true := by simp [h1, h2]
      rw [hf]
      simp -implicitDefEqProofs only [c18, r18_0, r18_1, opn_z, opn_s, sel_z, sel_s, qFn_eq, qPick_true, qG_tt, qG_tf, qLeq_int, qGeq_int, qG_un, AV.kill, c1, c2, decide_true]
    · have c2 : ¬ ((r : Int) ≤ 122) := by omega
      have c1003 : ((r : Int) ≥ 65) := by omega
      have c1004 : ¬ ((r : Int) ≤ 90) := by omega
      have c1005 : ((r : Int) == 95) = false := by simp; omega
      have hf : ((decide (97 ≤ r) && decide (r ≤ 122)) || (decide (65 ≤ r) && decide (r ≤ 90)) || decide (r = 95) || D) = D := by
        rw [Bool.eq_iff_iff]; simp; omega
      rw [hf]
      simp -implicitDefEqProofs only [c18, r18_0, r18_1, opn_z, opn_s, sel_z, sel_s, qFn_eq, qRes_val, qPick_true, qPick_false, qG_tt, qG_ff, qLeq_int, qGeq_int, qEql_int, AV.kill, c1, c2, c1003, c1004, c1005, hd, decide_true, decide_false]
  · have c1 : ¬ ((r : Int) ≥ 97) := by omega
    by_cases h3 : 65 ≤ r
    · have c1003 : ((r : Int) ≥ 65) := by omega
      by_cases h4 : r ≤ 90
      · have c1004 : ((r : Int) ≤ 90) := by omega
        have hf : ((decide (97 ≤ r) && decide (r ≤ 122)) || (decide (65 ≤ r) && decide (r ≤ 90)) || decide (r = 95) || D) = true := by simp [h3, h4]
        rw [hf]
        simp -implicitDefEqProofs only [c18, r18_0, r18_1, opn_z, opn_s, sel_z, sel_s, qFn_eq, qPick_true, qPick_false, qG_tt, qG_ff, qG_tf, qG_ft, qLeq_int, qGeq_int, AV.kill, c1, c1003, c1004, decide_true, decide_false]
      · have c1004 : ¬ ((r : Int) ≤ 90) := by omega
        by_cases h5 : r = 95
        · have c1005 : ((r : Int) == 95) = true := by simp; omega
          have hf : ((decide (97 ≤ r) && decide (r ≤ 122)) || (decide (65 ≤ r) && decide (r ≤ 90)) || decide (r = 95) || D) = true := by simp [h5]
          rw [hf]
          simp -implicitDefEqProofs only [c18, r18_0, r18_1, opn_z, opn_s, sel_z, sel_s, qFn_eq, qPick_true, qPick_false, qG_tt, qG_ff, qG_tf, qG_ft, qLeq_int, qGeq_int, qEql_int, AV.kill, c1, c1003, c1004, c1005, decide_true, decide_false]
        · have c1005 : ((r : Int) == 95) = false := by simp; omega
          have hf : ((decide (97 ≤ r) && decide (r ≤ 122)) || (decide (65 ≤ r) && decide (r ≤ 90)) || decide (r = 95) || D) = D := by
            rw [Bool.eq_iff_iff]; simp; omega
          rw [hf]
          simp -implicitDefEqProofs only [c18, r18_0, r18_1, opn_z, opn_s, sel_z, sel_s, qFn_eq, qRes_val, qPick_true, qPick_false, qG_tt, qG_ff, qG_ft, qLeq_int, qGeq_int, qEql_int, AV.kill, c1, c1003, c1004, c1005, hd, decide_true, decide_false]
    · have c1003 : ¬ ((r : Int) ≥ 65) := by omega
      have c1005 : ((r : Int) == 95) = false := by simp; omega
      have hf : ((decide (97 ≤ r) && decide (r ≤ 122)) || (decide (65 ≤ r) && decide (r ≤ 90)) || decide (r = 95) || D) = D := by
        rw [Bool.eq_iff_iff]; simp; omega
      rw [hf]
      simp -implicitDefEqProofs only [c18, r18_0, r18_1, opn_z, opn_s, sel_z, sel_s, qFn_eq, qRes_val, qPick_false, qG_ff, qG_ft, qGeq_int, qEql_int, AV.kill, c1, c1003, c1005, hd, decide_false]
theorem ge_ib (s : Str) (c : UInt8) (k : AV → Prop) : qGeq X 3 (.int .i64 (Lib.indexByte s c)) (.int .i64 0) k = k (.bool (s.contains c)) := by
  rw [qGeq_int, show decide (Lib.indexByte s c ≥ 0) = s.contains c from ib_dec s c]
theorem epPart (c : UInt8) (H : AH) : EP 17 [.int .u8 (c.toNat : Int)] H = some (.val (.bool (lxN c)) H) := by
  refine uo_form (X := X) (D := OD2) (O := OF2) (S := PS) (al := [.int .u8 (c.toNat : Int)]) e17 xf17 rfl rfl rfl rfl ?_ H
  simp only [AV.kills, AV.kill]
  unfold lxN
  have hl := epLet c
  have hi := ep43 [46, 43, 45] c
  have hg := ge_ib [46, 43, 45] c
  cases h : lxL c with
  | true =>
    rw [h] at hl
    simp -implicitDefEqProofs only [c17, r17_0, r17_1, opn_z, opn_s, sel_z, sel_s, qFn_eq, qRes_val, qPick_true, qG_tf, AV.kill, hl]
    rfl
  | false =>
    rw [h] at hl
    simp -implicitDefEqProofs only [c17, r17_0, r17_1, opn_z, opn_s, sel_z, sel_s, qFn_eq, qRes_val, qPick_false, qG_ff, AV.kill, hl, hi, hg]
    rfl
theorem u8_ne (c : UInt8) (n : Nat) (hn : n < 256) : (((c.toNat : Nat) : Int) == (n : Int)) = decide (c = UInt8.ofNat n) := by
  rw [Bool.eq_iff_iff, decide_eq_true_eq, beq_iff_eq, ← UInt8.toNat_inj]
  have : (UInt8.ofNat n).toNat = n := by simp [UInt8.toNat_ofNat']; omega
  rw [this]
  omega
theorem epHash (c : UInt8) (H : AH) : EP 12 [.int .u8 (c.toNat : Int)] H = some (.val (.bool (lxH c)) H) := by
  refine uo_form (X := X) (D := OD2) (O := OF2) (S := PS) (al := [.int .u8 (c.toNat : Int)]) e12 xf12 rfl rfl rfl rfl ?_ H
  simp only [AV.kills, AV.kill]
  unfold lxH
  have h1 : (((c.toNat : Nat) : Int) == 10) = decide (c = 10) := u8_ne c 10 (by decide)
  have h2 : (((c.toNat : Nat) : Int) == 13) = decide (c = 13) := u8_ne c 13 (by decide)
  by_cases k1 : c = 10
  · rw [decide_eq_true k1] at h1 ⊢
    simp -implicitDefEqProofs only [c12, r12_0, r12_1, opn_z, opn_s, sel_z, sel_s, qFn_eq, qPick_false, qG_ft, qNeq_int, AV.kill, h1, Bool.not_true]
    rfl
  · rw [decide_eq_false k1] at h1 ⊢
    simp -implicitDefEqProofs only [c12, r12_0, r12_1, opn_z, opn_s, sel_z, sel_s, qFn_eq, qPick_true, qG_tt, qNeq_int, AV.kill, h1, h2, Bool.not_false]
    rfl
theorem epSpan (g : Nat) (p : UInt8 → Bool) (hp : ∀ c H, EP g [.int .u8 (c.toNat : Int)] H = some (.val (.bool (p c)) H)) (s : Str) (hl : s.length < 1000000000000) (H : AH) :
    EP 11 [.str s, .fn (.func g) [] []] H = some (.val (.int .i64 (spn p s : Int)) H) := by
  refine uo_form (X := X) (D := OD2) (O := OF2) (S := PS) (al := [.str s, .fn (.func g) [] []]) e11 xf11 rfl rfl rfl rfl ?_ H
  simp only [AV.kills, AV.kill]
  simp -implicitDefEqProofs only [c11, r11_0, r11_1, opn_z, opn_s, qFn_eq, qBl_eq]
  refine loop_inv (fun m fr H' => ∃ (i : Nat) (b : AV), m + i = s.length ∧ fr = [.str s, .fn (.func g) [] [], .int .i64 0, .int .i64 (i : Int), b] ∧ i + spn p (s.drop i) = spn p s) ?_ (m := s.length) ⟨0, Aes.undef, rfl, rfl, by simp⟩
  rintro m fr H' kk ⟨i, b, hm, rfl, hi⟩ hkk
  by_cases h : i < s.length
  · have c1 : (i : Int) < (s.length : Int) := by omega
    have hc : s[i]? = some s[i] := List.getElem?_eq_getElem h
    have hx := fun k => qIx_at s i s[i] hc k
    have hd : s.drop i = s[i] :: s.drop (i + 1) := List.drop_eq_getElem_cons h
    rw [hd, spn_cons] at hi
    have hp' := fun H => hp s[i] H
    cases hpc : p s[i] with
    | true =>
      simp only [hpc] at hp'
      rw [hpc, if_pos rfl] at hi
      have hw : IntKind.i64.wrap ((i : Int) + 1) = ((i + 1 : Nat) : Int) := by rw [i64_in' (by omega)]; omega
      simp -implicitDefEqProofs only [l11_4, r11_2, r11_3, opn_z, opn_s, sel_z, sel_s, qCd_eq, qIf_true, qBl_eq, qRes_val, qPick_true, qG_tt, qCallV_fn, qLss_int, qAdd_int, qLenS_str, List.nil_append, List.append_nil, c1, decide_true, hx, hp', hw]
      exact hkk (m - 1) _ _ (by omega) ⟨i + 1, _, by omega, rfl, by omega⟩
    | false =>
      simp only [hpc] at hp'
      rw [hpc, if_neg (by simp)] at hi
      simp -implicitDefEqProofs only [l11_4, r11_2, r11_4, opn_z, opn_s, sel_z, sel_s, qCd_eq, qIf_false, qBl_eq, qRes_val, qPick_true, qG_tt, qCallV_fn, qLss_int, qLenS_str, List.nil_append, List.append_nil, AV.kill, c1, decide_true, hx, hp']
      rw [← hi]; rfl
  · have c1 : ¬ (i : Int) < (s.length : Int) := by omega
    rw [List.drop_eq_nil_of_le (by omega), spn_nil] at hi
    simp -implicitDefEqProofs only [l11_4, r11_2, r11_4, opn_z, opn_s, sel_z, sel_s, qCd_eq, qIf_false, qBl_eq, qPick_false, qG_ft, qLss_int, qLenS_str, AV.kill, c1, decide_false]
    rw [← hi]; rfl
end T
set_option linter.unusedVariables false
set_option linter.unusedSimpArgs false
set_option maxRecDepth 10000
namespace T
open Go Go.Aes Go.Proofs
theorem hi_take {c : UInt8} {l : Str} (hc : 128 ≤ c.toNat) : 128 ≤ (Lib.decodeL (c :: l)).1 ∧ ∀ x ∈ (c :: l).take (Lib.decodeL (c :: l)).2, 128 ≤ x.toNat := by
  by_cases hb : (Lib.decodeL (c :: l)).1 = 65533 ∧ (Lib.decodeL (c :: l)).2 = 1
  · rw [hb.1, hb.2]
    exact ⟨by omega, fun x hx => by
      have : x = c := by simpa using hx
      rw [this]; exact hc⟩
  · obtain ⟨hr, hok⟩ := dec_hi hc hb
    have henc : encR (Lib.decodeL (c :: l)).1 = (c :: l).take (Lib.decodeL (c :: l)).2 := Lib.encode_decode (c :: l) (by simp) hb
    have hx := encR_hi hr hok
    rw [henc] at hx
    exact ⟨hr, hx⟩
theorem any_hi (q : UInt8 → Bool) (hq : ∀ x : UInt8, 128 ≤ x.toNat → q x = false) {c : UInt8} {l : Str} (hc : 128 ≤ c.toNat) : (c :: l).any q = ((c :: l).drop (Lib.decodeL (c :: l)).2).any q := by
  conv => lhs; rw [← List.take_append_drop (Lib.decodeL (c :: l)).2 (c :: l)]
  rw [List.any_append]
  have : ((c :: l).take (Lib.decodeL (c :: l)).2).any q = false := by
    rw [List.any_eq_false]
    intro x hx
    rw [hq x ((hi_take hc).2 x hx)]
    simp
  rw [this, Bool.false_or]
theorem ctl_hi (x : UInt8) (h : 128 ≤ x.toNat) : ctl x = false := by
  unfold ctl
  rw [decide_eq_false (by omega)]
  rfl
set_option maxHeartbeats 1000000 in
theorem epRaw (s : Str) (hl : s.length < 1000000000000) (H : AH) : EP 34 [.str s] H = some (.val (.bool (rawB s)) H) := by
  refine uo_form (X := X) (D := OD2) (O := OF2) (S := PS) (al := [.str s]) e34 xf34 rfl rfl rfl rfl ?_ H
  simp only [AV.kills, AV.kill]
  have rg := fun k => range_i (H := H0) s k
  have hgi := get_push_at (H := H0) (.iter s 0)
  have hif : IsFn (H0.push (.iter s 0)) := inferInstance
  simp -implicitDefEqProofs only [c34, r34_0, r34_1, opn_z, opn_s, qFn_eq, qBl_eq, rg]
  generalize H0.nx = i at *
  generalize H0.push (.iter s 0) = H1 at *
  refine loop_inv (fun m fr H' => ∃ (l : Str) (p : Nat) (x4 x7 x8 x23 : AV), m = l.length ∧ fr = [.str s, .bool false, x4, .it i, x7, x8, x23] ∧ IsFn H' ∧ H'.get i = some (.iter l p) ∧ s.any ctl = l.any ctl) ?_ (m := s.length) ?_
  case refine_2 => exact ⟨s, 0, _, _, _, _, rfl, rfl, hif, hgi, rfl⟩
  rintro m fr H' k ⟨l, p, x4, x7, x8, x23, rfl, rfl, hf, hg, hn⟩ hk
  cases l with
  | nil =>
    have nx := fun k => next_nil hg k
    have e := fun H => ep30 s hl H
    have hr : rawB s = Lib.validD s := by
      unfold rawB
      rw [hn]; rfl
    rw [hr]
    simp -implicitDefEqProofs only [l34_5, r34_2, r34_6, opn_z, opn_s, sel_z, sel_s, qCd_eq, qIf_false, qBl_eq, qO_some, qRes_val, qExt_tup, List.getElem?_cons_zero, AV.kill, nx, e]
  | cons c l =>
    have nx := fun k => next_cons hg k
    have wd := Lib.decodeL_width (c :: l)
    have hg' : (H'.set i (some (.iter ((c :: l).drop (Lib.decodeL (c :: l)).2) (p + (Lib.decodeL (c :: l)).2)))).get i = some (.iter ((c :: l).drop (Lib.decodeL (c :: l)).2) (p + (Lib.decodeL (c :: l)).2)) := by rw [get_set_i (lt_i hg), if_pos rfl]
    have hif' : IsFn (H'.set i (some (.iter ((c :: l).drop (Lib.decodeL (c :: l)).2) (p + (Lib.decodeL (c :: l)).2)))) := inferInstance
    generalize H'.set i (some (.iter ((c :: l).drop (Lib.decodeL (c :: l)).2) (p + (Lib.decodeL (c :: l)).2))) = H'' at *
    rcases Nat.lt_or_ge c.toNat 128 with hc | hc
    · rw [dec_ascii c l hc] at nx hg'
      have e1 : (c.toNat : Int) < 32 ↔ c.toNat < 32 := by omega
      have h9 : (((c.toNat : Nat) : Int) == 9) = decide (c = 9) := u8_ne c 9 (by decide)
      have h10 : (((c.toNat : Nat) : Int) == 10) = decide (c = 10) := u8_ne c 10 (by decide)
      have h13 : (((c.toNat : Nat) : Int) == 13) = decide (c = 13) := u8_ne c 13 (by decide)
      have hany : (c :: l).any ctl = (ctl c || l.any ctl) := rfl
      rw [hany] at hn
      have go : ∀ (x4 x7 x8 x23 : AV), ctl c = false → k [.str s, .bool false, x4, .it i, x7, x8, x23] H'' := by
        intro x4 x7 x8 x23 h0
        rw [h0, Bool.false_or] at hn
        exact hk l.length _ _ (by simp) ⟨l, p + 1, _, _, _, _, rfl, rfl, hif', hg', hn⟩
      have no : ctl c = true → rawB s = false := by
        intro h0
        unfold rawB
        rw [hn, h0]; rfl
      unfold ctl at go no
      by_cases k1 : c.toNat < 32
      · have c1 : (c.toNat : Int) < 32 := by omega
        rw [decide_eq_true k1] at go no
        by_cases k2 : c = 9
        · rw [decide_eq_true k2] at h9 go
          simp -implicitDefEqProofs only [l34_5, r34_2, r34_3, r34_4, opn_z, opn_s, sel_z, sel_s, qCd_eq, qIf_true, qIf_false, qBl_eq, qO_some, qPick_true, qPick_false, qG_tt, qG_ft, qExt_tup, qLss_int, qNeq_int, List.getElem?_cons_zero, List.getElem?_cons_succ, nx, c1, decide_true, h9, Bool.not_true]
          exact go _ _ _ _ rfl
        · rw [decide_eq_false k2] at h9 go no
          by_cases k3 : c = 10
          · rw [decide_eq_true k3] at h10 go
            simp -implicitDefEqProofs only [l34_5, r34_2, r34_3, r34_4, opn_z, opn_s, sel_z, sel_s, qCd_eq, qIf_true, qIf_false, qBl_eq, qO_some, qPick_true, qPick_false, qG_tt, qG_ft, qExt_tup, qLss_int, qNeq_int, List.getElem?_cons_zero, List.getElem?_cons_succ, nx, c1, decide_true, h9, h10, Bool.not_true, Bool.not_false]
            exact go _ _ _ _ rfl
          · rw [decide_eq_false k3] at h10 go no
            by_cases k4 : c = 13
            · rw [decide_eq_true k4] at h13 go
              simp -implicitDefEqProofs only [l34_5, r34_2, r34_3, r34_4, opn_z, opn_s, sel_z, sel_s, qCd_eq, qIf_true, qIf_false, qBl_eq, qO_some, qPick_true, qG_tt, qExt_tup, qLss_int, qNeq_int, List.getElem?_cons_zero, List.getElem?_cons_succ, nx, c1, decide_true, h9, h10, h13, Bool.not_true, Bool.not_false]
              exact go _ _ _ _ rfl
            · rw [decide_eq_false k4] at h13 no
              rw [no rfl]
              simp -implicitDefEqProofs only [l34_5, r34_2, r34_3, r34_4, r34_5, opn_z, opn_s, sel_z, sel_s, qCd_eq, qIf_true, qBl_eq, qO_some, qPick_true, qG_tt, qExt_tup, qLss_int, qNeq_int, List.getElem?_cons_zero, List.getElem?_cons_succ, AV.kill, nx, c1, decide_true, h9, h10, h13, Bool.not_false]
      · have c1 : ¬ (c.toNat : Int) < 32 := by omega
        rw [decide_eq_false k1] at go
        simp -implicitDefEqProofs only [l34_5, r34_2, r34_3, r34_4, opn_z, opn_s, sel_z, sel_s, qCd_eq, qIf_true, qIf_false, qBl_eq, qO_some, qPick_false, qG_ft, qExt_tup, qLss_int, List.getElem?_cons_zero, List.getElem?_cons_succ, nx, c1, decide_false]
        exact go _ _ _ _ rfl
    · have hr := (hi_take (l := l) hc).1
      rw [any_hi ctl ctl_hi hc] at hn
      have c1 : ¬ ((Lib.decodeL (c :: l)).1 : Int) < 32 := by omega
      simp -implicitDefEqProofs only [l34_5, r34_2, r34_3, r34_4, opn_z, opn_s, sel_z, sel_s, qCd_eq, qIf_true, qIf_false, qBl_eq, qO_some, qPick_false, qG_ft, qExt_tup, qLss_int, List.getElem?_cons_zero, List.getElem?_cons_succ, nx, c1, decide_false]
      exact hk ((c :: l).drop (Lib.decodeL (c :: l)).2).length _ _ (by rw [List.length_drop]; simp only [List.length_cons]; omega) ⟨_, _, _, _, _, _, rfl, rfl, hif', hg', hn⟩
theorem crlf_any (s : Str) : crlf s = s.any ([10, 13] : Str).contains := by
  unfold crlf
  congr 1
  funext c
  rw [Bool.eq_iff_iff]
  simp
theorem ascP : Asc [10, 13] := by
  intro c hc
  simp only [List.mem_cons, List.not_mem_nil, or_false] at hc
  rcases hc with rfl | rfl <;> decide
theorem cont_hi (x : UInt8) (h : 128 ≤ x.toNat) : ([10, 13] : Str).contains x = false := by
  cases hx : ([10, 13] : Str).contains x with
  | false => rfl
  | true =>
    have := ascP x (by simpa using hx)
    omega
theorem epUse (n : Nat) (H : AH) : EP 69 [.int .i64 (n : Int)] H = some (.val (.bool (decide ((n : Int) > 8))) H) := by
  refine uo_form (X := X) (D := OD2) (O := OF2) (S := PS) (al := [.int .i64 (n : Int)]) e69 xf69 rfl rfl rfl rfl ?_ H
  simp only [AV.kills, AV.kill]
  simp -implicitDefEqProofs only [c69, r69_0, r69_1, opn_z, opn_s, sel_z, sel_s, qFn_eq, qGtr_int, AV.kill]
set_option maxHeartbeats 1000000 in
theorem epAny (s : Str) (hl : s.length < 1000000000000) : ∃ v, (∃ z : Int, v = .int .i64 z ∧ decide (z ≥ 0) = crlf s) ∧ ∀ H, EP 53 [.str s, .str [10, 13]] H = some (.val v H) := by
  refine uo_form_ex (X := X) (D := OD2) (O := OF2) (S := PS) (al := [.str s, .str [10, 13]]) e53 xf53 rfl rfl rfl (Q := fun v => ∃ z : Int, v = .int .i64 z ∧ decide (z ≥ 0) = crlf s) ?_
  simp only [AV.kills, AV.kill]
  rw [crlf_any]
  have n2 : decide ((([10, 13] : Str)) = []) = false := by simp
  have n3 : (((2 : Nat) : Int) == 1) = false := rfl
  have e69 := fun H => epUse s.length H
  by_cases h8 : (s.length : Int) > 8
  · rw [decide_eq_true h8] at e69
    obtain ⟨q, Ha, Hb, x1, x2, x3, x4, x5, x6⟩ := boxK (R := Prop) (Hs := H0) (H := H0) (.refl _) z82 (asS [10, 13]) (n := 256) (by rw [asS_nil, asS_len]) (asS_len _) (asS_one _)
    haveI := x5.fn
    have e107 := fun H => ep90 [10, 13] ascP (by decide) H
    simp -implicitDefEqProofs only [c53, r53_0, r53_1, r53_3, r53_8, r53_9, r53_10, r53_11, opn_z, opn_s, sel_z, sel_s, qCd_eq, qIf_true, qIf_false, qFn_eq, qBl_eq, qO_some, qRes_val, qExt_tup, qEql_int, qLenS_str, Nat.zero_add, List.getElem?_cons_zero, List.getElem?_cons_succ, List.length_cons, List.length_nil, Nat.reduceAdd, qEql_str, n2, n3, e69, e107, x1, x2]
    refine loop_inv (fun m fr H' => ∃ (i : Nat) (x4 x5 x7 x9 x10 x12 x15 x20 x26 x32 x36 x42 x45 x46 x47 x53 : AV), m + i = s.length ∧ fr = [.str s, .str [10, 13], x4, x5, .ptr q 0, x7, .int .i64 (i : Int), x9, x10, x12, x15, x20, x26, x32, x36, x42, x45, x46, x47, x53] ∧ H' = Hb ∧ s.any ([10, 13] : Str).contains = (s.drop i).any ([10, 13] : Str).contains) ?_ (m := s.length) ?_
    case refine_2 => exact ⟨0, _, _, _, _, _, _, _, _, _, _, _, _, _, _, _, _, rfl, rfl, rfl, rfl⟩
    rintro m fr H' k ⟨i, x4, x5, x7, x9, x10, x12, x15, x20, x26, x32, x36, x42, x45, x46, x47, x53, hm, rfl, rfl, hn⟩ hk
    by_cases h : i < s.length
    · have c1 : (i : Int) < (s.length : Int) := by omega
      have hc : s[i]? = some s[i] := List.getElem?_eq_getElem h
      have hx := fun k => qIx_at s i s[i] hc k
      have hd : s.drop i = s[i] :: s.drop (i + 1) := List.drop_eq_getElem_cons h
      have e119 := ep102 x3 s[i]
      rw [hd, List.any_cons] at hn
      cases hb : ([10, 13] : Str).contains s[i] with
      | true =>
        rw [hb] at e119 hn
        simp -implicitDefEqProofs only [l53_12, r53_12, r53_14, r53_15, opn_z, opn_s, sel_z, sel_s, qCd_eq, qIf_true, qBl_eq, qRes_val, qLss_int, qLenS_str, AV.kill, c1, decide_true, hx, e119]
        exact ⟨rfl, (i : Int), rfl, by rw [hn]; simp⟩
      | false =>
        rw [hb] at e119
        rw [hb, Bool.false_or] at hn
        have hw : IntKind.i64.wrap ((i : Int) + 1) = ((i + 1 : Nat) : Int) := by rw [i64_in' (by omega)]; omega
        simp -implicitDefEqProofs only [l53_12, r53_12, r53_14, r53_13, opn_z, opn_s, sel_z, sel_s, qCd_eq, qIf_true, qIf_false, qBl_eq, qRes_val, qLss_int, qAdd_int, qLenS_str, c1, decide_true, hx, e119, hw]
        exact hk (m - 1) _ _ (by omega) ⟨i + 1, _, _, _, _, _, _, _, _, _, _, _, _, _, _, _, _, by omega, rfl, rfl, hn⟩
    · have c1 : ¬ (i : Int) < (s.length : Int) := by omega
      rw [List.drop_eq_nil_of_le (by omega)] at hn
      simp -implicitDefEqProofs only [l53_12, r53_12, r53_16, opn_z, opn_s, sel_z, sel_s, qCd_eq, qIf_false, qBl_eq, qLss_int, qLenS_str, AV.kill, c1, decide_false]
      exact ⟨rfl, -1, rfl, by rw [hn]; rfl⟩
  · rw [decide_eq_false h8] at e69
    have rg := fun k => range_i (H := H0) s k
    have hgi := get_push_at (H := H0) (.iter s 0)
    have hif : IsFn (H0.push (.iter s 0)) := inferInstance
    simp -implicitDefEqProofs only [c53, r53_0, r53_1, r53_3, r53_8, r53_17, opn_z, opn_s, sel_z, sel_s, qCd_eq, qIf_false, qFn_eq, qBl_eq, qRes_val, qEql_int, qLenS_str, Nat.zero_add, List.length_cons, List.length_nil, Nat.reduceAdd, qEql_str, n2, n3, e69, rg]
    generalize H0.nx = i at *
    generalize H0.push (.iter s 0) = H1 at *
    refine loop_inv (fun m fr H' => ∃ (l : Str) (p : Nat) (x4 x5 x6 x7 x8 x9 x10 x12 x15 x20 x26 x32 x36 x42 x46 x47 x53 : AV), m = l.length ∧ fr = [.str s, .str [10, 13], x4, x5, x6, x7, x8, x9, x10, x12, x15, x20, x26, x32, x36, x42, .it i, x46, x47, x53] ∧ IsFn H' ∧ H'.get i = some (.iter l p) ∧ s.any ([10, 13] : Str).contains = l.any ([10, 13] : Str).contains) ?_ (m := s.length) ?_
    case refine_2 => exact ⟨s, 0, _, _, _, _, _, _, _, _, _, _, _, _, _, _, _, _, _, rfl, rfl, hif, hgi, rfl⟩
    rintro m fr H' k ⟨l, p, x4, x5, x6, x7, x8, x9, x10, x12, x15, x20, x26, x32, x36, x42, x46, x47, x53, rfl, rfl, hf, hg, hn⟩ hk
    cases l with
    | nil =>
      have nx := fun k => next_nil hg k
      simp -implicitDefEqProofs only [l53_5, r53_18, r53_22, opn_z, opn_s, sel_z, sel_s, qCd_eq, qIf_false, qBl_eq, qO_some, qExt_tup, List.getElem?_cons_zero, AV.kill, nx]
      exact ⟨rfl, -1, rfl, by rw [hn]; rfl⟩
    | cons c l =>
      have nx := fun k => next_cons hg k
      have wd := Lib.decodeL_width (c :: l)
      have hg' : (H'.set i (some (.iter ((c :: l).drop (Lib.decodeL (c :: l)).2) (p + (Lib.decodeL (c :: l)).2)))).get i = some (.iter ((c :: l).drop (Lib.decodeL (c :: l)).2) (p + (Lib.decodeL (c :: l)).2)) := by rw [get_set_i (lt_i hg), if_pos rfl]
      have hif' : IsFn (H'.set i (some (.iter ((c :: l).drop (Lib.decodeL (c :: l)).2) (p + (Lib.decodeL (c :: l)).2)))) := inferInstance
      generalize H'.set i (some (.iter ((c :: l).drop (Lib.decodeL (c :: l)).2) (p + (Lib.decodeL (c :: l)).2))) = H'' at *
      rcases Nat.lt_or_ge c.toNat 128 with hc | hc
      · rw [dec_ascii c l hc] at nx hg'
        have e64 := fun H => ep52 [10, 13] ascP (by decide) c.toNat H
        have hix : ixr [10, 13] c.toNat = Lib.indexByte [10, 13] c := by
          unfold ixr
          rw [if_pos hc]
          congr 1
          simp
        rw [hix] at e64
        have hg2 := ge_ib [10, 13] c
        rw [List.any_cons] at hn
        cases hb : ([10, 13] : Str).contains c with
        | true =>
          rw [hb] at hg2 hn
          simp -implicitDefEqProofs only [l53_5, r53_18, r53_19, r53_20, r53_21, opn_z, opn_s, sel_z, sel_s, qCd_eq, qIf_true, qBl_eq, qO_some, qRes_val, qExt_tup, List.getElem?_cons_zero, List.getElem?_cons_succ, AV.kill, nx, e64, hg2]
          exact ⟨rfl, (p : Int), rfl, by rw [hn]; simp⟩
        | false =>
          rw [hb] at hg2 hn
          rw [Bool.false_or] at hn
          simp -implicitDefEqProofs only [l53_5, r53_18, r53_19, r53_20, opn_z, opn_s, sel_z, sel_s, qCd_eq, qIf_true, qIf_false, qBl_eq, qO_some, qRes_val, qExt_tup, List.getElem?_cons_zero, List.getElem?_cons_succ, nx, e64, hg2]
          exact hk l.length _ _ (by simp) ⟨l, p + 1, _, _, _, _, _, _, _, _, _, _, _, _, _, _, _, _, _, rfl, rfl, hif', hg', hn⟩
      · have hr := (hi_take (l := l) hc).1
        rw [any_hi _ cont_hi hc] at hn
        have e64 := fun H => ep52 [10, 13] ascP (by decide) (Lib.decodeL (c :: l)).1 H
        have hix : ixr [10, 13] (Lib.decodeL (c :: l)).1 = -1 := by
          unfold ixr
          rw [if_neg (by omega)]
        rw [hix] at e64
        have c1 : ((-1 : Int) ≥ 0) = False := by simp
        simp -implicitDefEqProofs only [l53_5, r53_18, r53_19, r53_20, opn_z, opn_s, sel_z, sel_s, qCd_eq, qIf_true, qIf_false, qBl_eq, qO_some, qRes_val, qExt_tup, qGeq_int, List.getElem?_cons_zero, List.getElem?_cons_succ, nx, e64, c1, decide_false]
        exact hk ((c :: l).drop (Lib.decodeL (c :: l)).2).length _ _ (by rw [List.length_drop]; simp only [List.length_cons]; omega) ⟨_, _, _, _, _, _, _, _, _, _, _, _, _, _, _, _, _, _, _, rfl, rfl, hif', hg', hn⟩
theorem epContains (s : Str) (hl : s.length < 1000000000000) (H : AH) : EP 38 [.str s, .str [10, 13]] H = some (.val (.bool (crlf s)) H) := by
  obtain ⟨v, ⟨z, rfl, hz⟩, e⟩ := epAny s hl
  refine uo_form (X := X) (D := OD2) (O := OF2) (S := PS) (al := [.str s, .str [10, 13]]) e38 xf38 rfl rfl rfl rfl ?_ H
  simp only [AV.kills, AV.kill]
  simp -implicitDefEqProofs only [c38, r38_0, r38_1, opn_z, opn_s, sel_z, sel_s, qFn_eq, qRes_val, qGeq_int, AV.kill, e, hz]
end T
