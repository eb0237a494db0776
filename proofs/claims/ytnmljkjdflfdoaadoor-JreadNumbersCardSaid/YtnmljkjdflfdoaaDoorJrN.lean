import Derived.Test.YtnmljkjdflfdoaaDoorJrX5
set_option linter.all false
set_option linter.unusedVariables false
set_option linter.unusedSimpArgs false
set_option maxRecDepth 10000
namespace T
open Go Go.Aes Go.Proofs

/-! ### a word in a list -/
theorem wd_ne {c : UInt8} (h : wdB c = true) : ∀ x ∈ ([32, 9, 10, 13, 91, 93, 123, 125, 44, 58, 34] : Str), c ≠ x := by
  intro x hx e
  subst e
  unfold wdB at h
  simp [List.contains_iff_mem, hx] at h
theorem skF_word {c : UInt8} {s : Str} (h : wdB c = true) : skF (c :: s) = c :: s := by
  have hn := wd_ne h
  show List.dropWhile jb.contains (c :: s) = _
  rw [List.dropWhile_cons, if_neg]
  intro hc
  have hm : c ∈ jb := by simpa using hc
  unfold jb at hm
  exact hn c (by simp at hm ⊢; rcases hm with h | h | h | h <;> simp [h]) rfl
theorem word_no {c x : UInt8} {s : Str} (h : wdB c = true) (hx : x ∈ ([32, 9, 10, 13, 91, 93, 123, 125, 44, 58, 34] : Str)) : hp (c :: s) [x] = false ∧ hasB (c :: s) [x] = false ∧ hasS (c :: s) [x] = c :: s := by
  have h1 : hp (c :: s) [x] = false := by rw [hp_one]; exact decide_eq_false (wd_ne h x hx)
  refine ⟨h1, ?_, ?_⟩
  · unfold hasB; rw [skF_word h]; exact h1
  · unfold hasS cutP; rw [skF_word h, h1, if_neg (by simp)]
theorem tw_all : ∀ {s : Str}, s.all wdB = true → (s ++ [93]).takeWhile wdB = s ∧ (s ++ [93]).dropWhile wdB = [93]
  | [], _ => ⟨by decide, by decide⟩
  | c :: s, h => by
    simp only [List.all_cons, Bool.and_eq_true] at h
    obtain ⟨a, b⟩ := tw_all h.2
    rw [List.cons_append, List.takeWhile_cons, if_pos h.1, List.dropWhile_cons, if_pos h.1, a, b]
    exact ⟨rfl, rfl⟩
theorem valF_word {c : UInt8} {s : Str} (h : wdB c = true) (n deep : Nat) (d t : Bool) : valF (n + 1) deep (c :: s) d t = (wordK ((c :: s).takeWhile wdB)).map fun p => (.mk p.1 p.2 [] [], (c :: s).dropWhile wdB, d || decide (12 < deep), t) := by
  obtain ⟨_, a1, a2⟩ := word_no (s := s) h (x := 91) (by simp)
  obtain ⟨_, b1, b2⟩ := word_no (s := s) h (x := 123) (by simp)
  obtain ⟨c1, _, _⟩ := word_no (s := s) h (x := 34) (by simp)
  unfold valF
  rw [a1, a2, b1, b2, c1]
  rfl
theorem readF_word {s : Str} (hs : s ≠ []) (hw : s.all wdB = true) (hl : s.length ≤ 100) : readF (91 :: (s ++ [93])) = match wordK s with
    | some p => (.mk 7 [] [] [.mk p.1 p.2 [] []], 0)
    | none => (zV, 2) := by
  obtain ⟨c, s', rfl⟩ : ∃ c s', s = c :: s' := by cases s with
    | nil => exact absurd rfl hs
    | cons c s' => exact ⟨c, s', rfl⟩
  obtain ⟨tw, dw⟩ := tw_all hw
  have hc : wdB c = true := by simp only [List.all_cons, Bool.and_eq_true] at hw; exact hw.1
  rw [List.cons_append] at tw dw ⊢
  generalize hz : s' ++ [93] = z at tw dw ⊢
  have hzl : z.length = s'.length + 1 := by rw [← hz]; simp
  obtain ⟨_, a1, a2⟩ := word_no (s := z) hc (x := 93) (by simp)
  have h0 : hasB (91 :: c :: z) [91] = true := by unfold hasB; rw [show skF (91 :: c :: z) = 91 :: c :: z from rfl, hp_one]; rfl
  have h0' : hasS (91 :: c :: z) [91] = c :: z := by unfold hasS cutP; rw [show skF (91 :: c :: z) = 91 :: c :: z from rfl, hp_one]; rfl
  have e1 : hasB [93] [44] = false := by decide
  have e2 : hasS [93] [44] = [93] := by decide
  have e3 : hasB [93] [93] = true := by decide
  have e4 : hasS [93] [93] = [] := by decide
  have hle : ¬ 4000 < (91 :: c :: z).length := by simp only [List.length_cons] at hl ⊢; omega
  unfold readF
  rw [if_neg hle]
  have hf : 4 * (91 :: c :: z : Str).length + 4 = (4 * z.length + 8) + 4 := by simp only [List.length_cons]; omega
  have key : valF (4 * (91 :: c :: z : Str).length + 4) 1 (91 :: c :: z) false false = (wordK (c :: s')).map fun p => (.mk 7 [] [] [.mk p.1 p.2 [] []], [], false, false) := by
    rw [hf]
    generalize 4 * z.length + 8 = n
    unfold valF
    rw [if_pos h0, h0']
    unfold lstF
    rw [show endS false = [93] from rfl]
    simp only [a1, a2, Bool.false_eq_true, if_false]
    unfold ptF
    rw [valF_word hc, tw, dw]
    cases wordK (c :: s') with
    | none => rfl
    | some p =>
      simp only [Option.map_some, Option.bind_some]
      unfold itF
      simp only [e1, e2, show endS false = [93] from rfl, e3, e4, Bool.false_eq_true, if_false, if_true]
      rfl
  unfold rdF
  rw [key]
  cases wordK (c :: s') with
  | none => rfl
  | some p =>
    simp only [Option.map_some, Option.bind_some, show skF [] = [] from rfl, if_true]
    rfl
end T
