import Derived.Test.YtpndehigidcchaaDoorLxX
set_option linter.all false
set_option linter.unusedVariables false
set_option linter.unusedSimpArgs false
set_option maxRecDepth 10000
namespace T
open Go Go.Aes Go.Proofs

/-! ### what remarks, small names do -/
theorem tok_a (c : UInt8) (x : Str) (hc : lxL c = true) (hd : isD c = false) (h45 : c ≠ 45) (hx : ∀ d y, x = d :: y → lxL d = false) : tokF (c :: x) = some (1, [c], 1) := by
  have hs : spn lxL (c :: x) = 1 := by
    rw [spn_cons, if_pos hc]
    cases x with
    | nil => rfl
    | cons d y => rw [spn_cons, if_neg (by rw [hx d y rfl]; simp)]
  have h0 : ¬ ((isD c || decide (c = 45)) = true) := by simp [hd, h45]
  show (if (isD c || decide (c = 45)) = true then _ else if lxL c = true then (if 40 < spn lxL (c :: x) then none else some (1, (c :: x).take (spn lxL (c :: x)), spn lxL (c :: x))) else _) = _
  rw [if_neg h0, if_pos hc, hs]
  rfl
theorem lex_a (x : Str) (hx : ∀ d y, x = d :: y → lxL d = false) (k : Nat) : lexF (97 :: x) k = match lexF x (k + 1) with
    | .inl e => .inl e
    | .inr l => .inr ((1, [97], k) :: l) := by
  rw [lexF_cons, if_neg (by decide), if_neg (by decide), tok_a 97 x (by decide) (by decide) (by decide) hx]
  rfl
theorem lex_b (k : Nat) : lexF [98] k = .inr [(1, [98], k)] := by
  rw [lexF_cons, if_neg (by decide), if_neg (by decide), tok_a 98 [] (by decide) (by decide) (by decide) (fun d y h => by cases h)]
  rfl
theorem lex_blank {c : UInt8} (hc : lxB c = true) (x : Str) (k : Nat) : lexF (c :: x) k = lexF x (k + 1) := by rw [lexF_cons, if_pos hc]
theorem spn_app (p : UInt8 → Bool) : ∀ (s y : Str), (∀ c ∈ s, p c = true) → spn p (s ++ y) = s.length + spn p y
  | [], y, _ => by simp
  | c :: s, y, h => by
    rw [List.cons_append, spn_cons, if_pos (h c (by simp)), spn_app p s y (fun d hd => h d (by simp [hd]))]
    simp; omega
theorem lex_rem (s y : Str) (hs : ∀ c ∈ s, lxH c = true) (hy : ∀ d z, y = d :: z → lxH d = false) (k : Nat) : lexF (35 :: (s ++ y)) k = lexF y (k + (s.length + 1)) := by
  have h0 : spn lxH y = 0 := by
    cases y with
    | nil => rfl
    | cons d z => rw [spn_cons, if_neg (by rw [hy d z rfl]; simp)]
  rw [lexF_cons, if_neg (by decide), if_pos rfl, spn_app lxH s y hs, h0]
  simp

theorem remark_law (s : Str) (hs : ∀ c ∈ s, lxH c = true) : lexF ([97, 35] ++ s) 0 = .inr [(1, [97], 0)] ∧
    (∀ nl ∈ ([[10], [13], [13, 10]] : List Str), ∃ j, lexF ([97, 35] ++ s ++ nl ++ [98]) 0 = .inr [(1, [97], 0), (1, [98], j)]) := by
  constructor
  · show lexF (97 :: 35 :: s) 0 = _
    rw [lex_a _ (fun d y h => by injection h with h; subst h; decide)]
    have := lex_rem s [] hs (fun d z h => by cases h) 1
    rw [List.append_nil] at this
    rw [this, lexF_nil]
  · intro nl hnl
    have step : ∀ y : Str, (∀ d z, y = d :: z → lxH d = false) → lexF (97 :: 35 :: (s ++ y)) 0 = match lexF y (1 + (s.length + 1)) with
        | .inl e => .inl e
        | .inr l => .inr ((1, [97], 0) :: l) := by
      intro y hy
      rw [lex_a _ (fun d y h => by injection h with h; subst h; decide), lex_rem s y hs hy]
    have e : [97, 35] ++ s ++ nl ++ [98] = 97 :: 35 :: (s ++ (nl ++ [98])) := by simp
    rw [e, step]
    · simp only [List.mem_cons, List.not_mem_nil, or_false] at hnl
      rcases hnl with rfl | rfl | rfl
      · refine ⟨1 + (s.length + 1) + 1, ?_⟩
        rw [show ([10] : Str) ++ [98] = 10 :: [98] from rfl, lex_blank (by decide), lex_b]
      · refine ⟨1 + (s.length + 1) + 1, ?_⟩
        rw [show ([13] : Str) ++ [98] = 13 :: [98] from rfl, lex_blank (by decide), lex_b]
      · refine ⟨1 + (s.length + 1) + 1 + 1, ?_⟩
        rw [show ([13, 10] : Str) ++ [98] = 13 :: 10 :: [98] from rfl, lex_blank (by decide), lex_blank (by decide), lex_b]
    · intro d z h
      simp only [List.mem_cons, List.not_mem_nil, or_false] at hnl
      rcases hnl with rfl | rfl | rfl <;> (simp only [List.cons_append, List.cons.injEq] at h; obtain ⟨rfl, _⟩ := h; decide)

/-! ### one thing that is none -/
def as_ : Nat → Str
  | 0 => []
  | k + 1 => 97 :: 44 :: as_ k
theorem as_len : ∀ k, (as_ k).length = 2 * k
  | 0 => rfl
  | k + 1 => by simp [as_, as_len k]; omega
theorem as_app : ∀ k, as_ k ++ [97, 44] = as_ (k + 1)
  | 0 => rfl
  | k + 1 => by
    show 97 :: 44 :: (as_ k ++ [97, 44]) = _
    rw [as_app k]; rfl
theorem wrong_as : ∀ (k j e : Nat) (x : Str), lexF x (j + 2 * k) = .inl e → lexF (as_ k ++ x) j = .inl e
  | 0, j, e, x, h => h
  | k + 1, j, e, x, h => by
    show lexF (97 :: 44 :: (as_ k ++ x)) j = _
    rw [lex_a _ (fun d y h => by injection h with h; subst h; decide), lex_blank (by decide), wrong_as k (j + 1 + 1) e x (by rw [show j + 1 + 1 + 2 * k = j + 2 * (k + 1) by omega]; exact h)]
def wrongs : List Str := [[37], [49, 97], [48, 49], [45], [34], [34, 92, 113, 34], [34, 34, 34], [46, 46], [116, 104, 105, 115, 95, 110, 97, 109, 101, 95, 105, 115, 95, 108, 111, 110, 103, 101, 114, 95, 116, 104, 97, 110, 95, 97, 110, 121, 95, 110, 97, 109, 101, 95, 109, 97, 121, 95, 98, 101, 95, 120], [1]]
def noneB (w : Str) : Bool := match w ++ [32, 98] with
  | [] => false
  | c :: r => !lxB c && !decide (c = 35) && (tokF (c :: r)).isNone
theorem wrongs_ok : wrongs.all noneB = true := by decide +kernel
theorem wrong_law (k : Nat) {w : Str} (hw : w ∈ wrongs) : lexF (as_ k ++ w ++ [32, 98]) 0 = .inl (2 * k) := by
  have h := List.all_eq_true.1 wrongs_ok w hw
  rw [List.append_assoc]
  refine wrong_as k 0 _ _ ?_
  unfold noneB at h
  generalize w ++ [32, 98] = x at *
  cases x with
  | nil => cases h
  | cons c r =>
    simp only [Bool.and_eq_true, Bool.not_eq_true', decide_eq_false_iff_not, Option.isNone_iff_eq_none] at h
    rw [lexF_cons, if_neg (by rw [h.1.1]; simp), if_neg h.1.2, h.2]
    simp
end T
