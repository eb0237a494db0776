import Derived.Test.YtnmljkjdflfdoaaDoorJrN
set_option linter.all false
set_option linter.unusedVariables false
set_option linter.unusedSimpArgs false
set_option maxRecDepth 10000
namespace T
open Go Go.Aes Go.Proofs

theorem isD_wd {c : UInt8} (h : isD c = true) : wdB c = true := by
  unfold wdB
  rw [Bool.not_eq_true']
  cases hc : ([32, 9, 10, 13, 91, 93, 123, 125, 44, 58, 34] : Str).contains c with
  | false => rfl
  | true =>
    exfalso
    have hm : c ∈ ([32, 9, 10, 13, 91, 93, 123, 125, 44, 58, 34] : Str) := by simpa using hc
    have : ∀ x ∈ ([32, 9, 10, 13, 91, 93, 123, 125, 44, 58, 34] : Str), isD x = false := by decide
    rw [this c hm] at h
    cases h
theorem all_wd {x : Str} (h : ∀ c ∈ x, isD c = true) : x.all wdB = true := by
  rw [List.all_eq_true]
  exact fun c hc => isD_wd (h c hc)
theorem wordK_hd {c : UInt8} {s : Str} (h : c ≠ 110 ∧ c ≠ 116 ∧ c ≠ 102) : wordK (c :: s) = if (num (c :: s)).2 = false then none else if (num (c :: s)).1 then some (3, c :: s) else some (4, c :: s) := by
  unfold wordK
  rw [if_neg (by intro e; injection e with e _; exact h.1 e), if_neg (by rintro (e | e) <;> injection e with e _; exact h.2.1 e; exact h.2.2 e)]
theorem Wh.cons {x : Str} (h : Wh x) : ∃ c t, x = c :: t ∧ isD c = true := by
  cases x with
  | nil => exact absurd rfl h.ne
  | cons c t => exact ⟨c, t, rfl, h.all c (by simp)⟩
theorem isD_hd {c : UInt8} (h : isD c = true) : c ≠ 110 ∧ c ≠ 116 ∧ c ≠ 102 := ⟨isD_ne h 110 rfl, isD_ne h 116 rfl, isD_ne h 102 rfl⟩
theorem wk_num {x r : Str} (hx : Wh x) (hr : ndg r) (hl : (x ++ r).length ≤ 40) : wordK (x ++ r) = if (tailN r).2 = false then none else if (tailN r).1 then some (3, x ++ r) else some (4, x ++ r) := by
  have hn : num (x ++ r) = tailN r := num_form false hx hr (by simpa [sg] using hl)
  obtain ⟨c, t, rfl, hc⟩ := hx.cons
  rw [List.cons_append] at hn ⊢
  rw [wordK_hd (isD_hd hc), hn]
theorem num_00 {x : Str} (hx : Wh x) (hl : x.length ≤ 39) : (num (48 :: x)).2 = false := by
  have hc : cutP (48 :: x) [45] = 48 :: x := by unfold cutP; rw [hp_one]; rfl
  have hd : dg (48 :: x) = x.length + 1 := dg_all (48 :: x) (fun c hc => by
    rcases List.mem_cons.1 hc with rfl | hc
    · rfl
    · exact hx.all c hc)
  have h0 : x.length ≠ 0 := fun e => hx.ne (List.eq_nil_of_length_eq_zero e)
  unfold num
  rw [if_neg (by simp; omega), hc]
  simp only []
  rw [if_pos (.inr ⟨by rw [hd]; omega, rfl⟩)]

def F6 (x y : Str) : List Str := [x, 45 :: x, x ++ [46] ++ y, x ++ [101, 45] ++ y, [116, 114, 117, 101], [110, 117, 108, 108], x ++ [46], 48 :: x, [116, 114, 117], [110, 117, 108], [84, 114, 117, 101], [39, 97, 39]]
/-- what each of them says -/
theorem f6_word {x y : Str} (hx : Wh x) (hy : Wh y) (lx : x.length ≤ 6) (ly : y.length ≤ 3) : ∀ k s, (F6 x y)[k]? = some s → s ≠ [] ∧ s.all wdB = true ∧ s.length ≤ 20 ∧ (5 < k → wordK s = none) ∧
    (k ≤ 5 → ∃ n t, ([3, 3, 4, 4, 2, 1] : List Int)[k]? = some n ∧ wordK s = some (n, t) ∧ (k = 5 ∨ t = s)) := by
  have ax := all_wd hx.all
  have ay := all_wd hy.all
  have t0 : wordK x = some (3, x) := by
    have := wk_num (r := []) hx ndg_nil (by simp; omega)
    rw [List.append_nil] at this
    rw [this]; rfl
  have t1 : wordK (45 :: x) = some (3, 45 :: x) := by
    have hn : num (45 :: x) = (true, true) := by
      have := num_form true (r := []) hx ndg_nil (by simp [sg]; omega)
      rw [List.append_nil] at this
      exact this
    rw [wordK_hd (by decide), hn]; rfl
  have fy : fracN (46 :: y) = some [] := by
    have := fracN_dot y [] hy.all hy.ne ndg_nil
    rwa [List.append_nil] at this
  have t2 : wordK (x ++ [46] ++ y) = some (4, x ++ [46] ++ y) := by
    rw [List.append_assoc]
    have := wk_num (r := 46 :: y) hx (ndg_cons rfl) (by simp; omega)
    rw [show ([46] : Str) ++ y = 46 :: y from rfl, this]
    simp only [tailN, fy]; rfl
  have ey : expN (101 :: 45 :: y) = some [] := by
    have := expN_es 101 45 rfl rfl y [] hy.all hy.ne ndg_nil
    rwa [List.append_nil] at this
  have t3 : wordK (x ++ [101, 45] ++ y) = some (4, x ++ [101, 45] ++ y) := by
    rw [List.append_assoc]
    have := wk_num (r := 101 :: 45 :: y) hx (ndg_cons rfl) (by simp; omega)
    rw [show ([101, 45] : Str) ++ y = 101 :: 45 :: y from rfl, this]
    simp only [tailN, fracN_other (show (101 : UInt8) ≠ 46 by decide), ey]; rfl
  have t6 : wordK (x ++ [46]) = none := by
    have := wk_num (r := [46]) hx (ndg_cons rfl) (by simp; omega)
    rw [this]; rfl
  have t7 : wordK (48 :: x) = none := by
    rw [wordK_hd (by decide), num_00 hx (by omega)]; rfl
  intro k s hs
  match k, hs with
  | 0, hs => injection hs with hs; subst hs; exact ⟨hx.ne, ax, by omega, fun h => by omega, fun _ => ⟨3, _, rfl, t0, .inr rfl⟩⟩
  | 1, hs => injection hs with hs; subst hs; exact ⟨by simp, by rw [List.all_cons, ax]; rfl, by simp; omega, fun h => by omega, fun _ => ⟨3, _, rfl, t1, .inr rfl⟩⟩
  | 2, hs => injection hs with hs; subst hs; exact ⟨by simp, by rw [List.all_append, List.all_append, ax, ay]; rfl, by simp; omega, fun h => by omega, fun _ => ⟨4, _, rfl, t2, .inr rfl⟩⟩
  | 3, hs => injection hs with hs; subst hs; exact ⟨by simp, by rw [List.all_append, List.all_append, ax, ay]; rfl, by simp; omega, fun h => by omega, fun _ => ⟨4, _, rfl, t3, .inr rfl⟩⟩
  | 4, hs => injection hs with hs; subst hs; exact ⟨by simp, by decide, by decide, fun h => by omega, fun _ => ⟨2, _, rfl, by kernel_rfl, .inr rfl⟩⟩
  | 5, hs => injection hs with hs; subst hs; exact ⟨by simp, by decide, by decide, fun h => by omega, fun _ => ⟨1, [], rfl, by kernel_rfl, .inl rfl⟩⟩
  | 6, hs => injection hs with hs; subst hs; exact ⟨by simp, by rw [List.all_append, ax]; rfl, by simp; omega, fun _ => t6, fun h => by omega⟩
  | 7, hs => injection hs with hs; subst hs; exact ⟨by simp, by rw [List.all_cons, ax]; rfl, by simp; omega, fun _ => t7, fun h => by omega⟩
  | 8, hs => injection hs with hs; subst hs; exact ⟨by simp, by decide, by decide, fun _ => by kernel_rfl, fun h => by omega⟩
  | 9, hs => injection hs with hs; subst hs; exact ⟨by simp, by decide, by decide, fun _ => by kernel_rfl, fun h => by omega⟩
  | 10, hs => injection hs with hs; subst hs; exact ⟨by simp, by decide, by decide, fun _ => by kernel_rfl, fun h => by omega⟩
  | 11, hs => injection hs with hs; subst hs; exact ⟨by simp, by decide, by decide, fun _ => by kernel_rfl, fun h => by omega⟩
  | n + 12, hs => simp [F6] at hs
theorem ix42 (x y : Str) (k : Nat) (h : k < 12) : ∃ s, (F6 x y)[k]? = some s ∧ ∀ kk : AV → Prop, (qBld z42 [(0, 1, .str x), (1, 1, .str (45 :: x)), (2, 1, .str (x ++ [46] ++ y)), (3, 1, .str (x ++ [101, 45] ++ y)), (4, 1, .str [116, 114, 117, 101]), (5, 1, .str [110, 117, 108, 108]), (6, 1, .str (x ++ [46])), (7, 1, .str (48 :: x)), (8, 1, .str [116, 114, 117]), (9, 1, .str [110, 117, 108]), (10, 1, .str [84, 114, 117, 101]), (11, 1, .str [39, 97, 39])] fun v => qO (indexOf X 42 v (.int .i64 (k : Int))) kk) = kk (.str s) := by
  match k, h with
  | 0, _ => exact ⟨_, rfl, fun kk => by kernel_rfl⟩
  | 1, _ => exact ⟨_, rfl, fun kk => by kernel_rfl⟩
  | 2, _ => exact ⟨_, rfl, fun kk => by kernel_rfl⟩
  | 3, _ => exact ⟨_, rfl, fun kk => by kernel_rfl⟩
  | 4, _ => exact ⟨_, rfl, fun kk => by kernel_rfl⟩
  | 5, _ => exact ⟨_, rfl, fun kk => by kernel_rfl⟩
  | 6, _ => exact ⟨_, rfl, fun kk => by kernel_rfl⟩
  | 7, _ => exact ⟨_, rfl, fun kk => by kernel_rfl⟩
  | 8, _ => exact ⟨_, rfl, fun kk => by kernel_rfl⟩
  | 9, _ => exact ⟨_, rfl, fun kk => by kernel_rfl⟩
  | 10, _ => exact ⟨_, rfl, fun kk => by kernel_rfl⟩
  | 11, _ => exact ⟨_, rfl, fun kk => by kernel_rfl⟩
  | n + 12, h => omega
theorem ix43 (k : Nat) (h : k ≤ 5) (n : Int) (hn : ([3, 3, 4, 4, 2, 1] : List Int)[k]? = some n) : ∀ kk : AV → Prop, (qBld z43 [(0, 1, .int .i64 3), (1, 1, .int .i64 3), (2, 1, .int .i64 4), (3, 1, .int .i64 4), (4, 1, .int .i64 2), (5, 1, .int .i64 1)] fun v => qO (indexOf X 43 v (.int .i64 (k : Int))) kk) = kk (.int .i64 n) := by
  match k, h, hn with
  | 0, _, hn => injection hn with hn; subst hn; exact fun kk => by kernel_rfl
  | 1, _, hn => injection hn with hn; subst hn; exact fun kk => by kernel_rfl
  | 2, _, hn => injection hn with hn; subst hn; exact fun kk => by kernel_rfl
  | 3, _, hn => injection hn with hn; subst hn; exact fun kk => by kernel_rfl
  | 4, _, hn => injection hn with hn; subst hn; exact fun kk => by kernel_rfl
  | 5, _, hn => injection hn with hn; subst hn; exact fun kk => by kernel_rfl
  | n + 6, h, _ => omega
end T
