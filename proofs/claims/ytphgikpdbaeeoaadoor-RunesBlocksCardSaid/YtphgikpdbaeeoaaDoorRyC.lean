import Derived.Test.YtphgikpdbaeeoaaDoorRyB
set_option linter.all false
set_option linter.unusedVariables false
set_option linter.unusedSimpArgs false
set_option maxRecDepth 10000
namespace T
open Go Go.Aes Go.Proofs

/-! ### lines, as the library cuts them and as the document reads them -/
def RK (old new s : Str) : Str := Lib.replaceK old new (Lib.count s old) s
def SK (sep s : Str) : List Str := Lib.splitK sep 0 (Lib.count s sep) s

theorem count_nil {old : Str} (h : old ≠ []) : Lib.count [] old = 0 := by
  refine Lib.count_miss ?_
  cases old with
  | nil => exact absurd rfl h
  | cons a l => rfl
theorem index_pre {c : UInt8} {r old : Str} (h : old.isPrefixOf (c :: r) = true) : Lib.index (c :: r) old = 0 := by
  unfold Lib.index
  rw [if_pos h]
theorem index_npre {c : UInt8} {r old : Str} (h : old.isPrefixOf (c :: r) = false) : Lib.index (c :: r) old = if Lib.index r old == -1 then -1 else Lib.index r old + 1 := by
  rw [Lib.index, h]; simp

theorem RK_nil {old new : Str} (h : old ≠ []) : RK old new [] = [] := by
  unfold RK
  rw [count_nil h]; rfl
theorem RK_hit {old new : Str} {c : UInt8} {r : Str} (ho : old ≠ []) (h : old.isPrefixOf (c :: r) = true) : RK old new (c :: r) = new ++ RK old new ((c :: r).drop old.length) := by
  have hi : Lib.index (c :: r) old = ((0 : Nat) : Int) := index_pre h
  unfold RK
  rw [Lib.count_hit ho hi, Nat.add_comm 1, Lib.replaceK_hit old new _ _ 0 hi]
  simp
theorem RK_miss {old new : Str} {c : UInt8} {r : Str} (ho : old ≠ []) (h : old.isPrefixOf (c :: r) = false) : RK old new (c :: r) = c :: RK old new r := by
  have hx := index_npre h
  unfold RK
  by_cases hm : Lib.index r old = -1
  · rw [hm] at hx
    have hx' : Lib.index (c :: r) old = -1 := hx
    rw [Lib.count_miss hx', Lib.count_miss hm]
    rfl
  · have hge := Lib.index_ge r old
    obtain ⟨i, hi⟩ : ∃ i : Nat, Lib.index r old = (i : Int) := ⟨(Lib.index r old).toNat, by omega⟩
    have hx' : Lib.index (c :: r) old = ((i + 1 : Nat) : Int) := by
      rw [hx, hi]
      have : ¬ (((i : Int) == -1) = true) := by simp
      rw [if_neg this]; rfl
    rw [Lib.count_hit ho hx', Lib.count_hit ho hi, Nat.add_comm 1, Nat.add_comm 1, Lib.replaceK_hit old new _ _ _ hx', Lib.replaceK_hit old new _ _ _ hi]
    have e : (c :: r).drop (i + 1 + old.length) = r.drop (i + old.length) := by
      rw [show i + 1 + old.length = (i + old.length) + 1 by omega]; rfl
    rw [e]; rfl

theorem splitK_hit (sep : Str) (k : Nat) (s : Str) (i : Nat) (h : Lib.index s sep = i) : Lib.splitK sep 0 (k + 1) s = s.take i :: Lib.splitK sep 0 k (s.drop (i + sep.length)) := by
  have hm : ¬ (Lib.index s sep == -1) = true := fun e => by have := beq_iff_eq.1 e; omega
  have e : (Lib.index s sep).toNat = i := by omega
  rw [Lib.splitK, if_neg hm, e]; rfl
theorem SK_nil {sep : Str} (h : sep ≠ []) : SK sep [] = [[]] := by
  unfold SK
  rw [count_nil h]; rfl
theorem SK_hit {sep : Str} {c : UInt8} {r : Str} (ho : sep ≠ []) (h : sep.isPrefixOf (c :: r) = true) : SK sep (c :: r) = [] :: SK sep ((c :: r).drop sep.length) := by
  have hi : Lib.index (c :: r) sep = ((0 : Nat) : Int) := index_pre h
  unfold SK
  rw [Lib.count_hit ho hi, Nat.add_comm 1, splitK_hit sep _ _ 0 hi]
  simp
theorem SK_miss {sep : Str} {c : UInt8} {r h : Str} {t : List Str} (ho : sep ≠ []) (hp : sep.isPrefixOf (c :: r) = false) (hr : SK sep r = h :: t) : SK sep (c :: r) = (c :: h) :: t := by
  have hx := index_npre hp
  unfold SK at hr ⊢
  by_cases hm : Lib.index r sep = -1
  · rw [hm] at hx
    have hx' : Lib.index (c :: r) sep = -1 := hx
    rw [Lib.count_miss hm] at hr
    rw [Lib.count_miss hx']
    have hr' : [r] = h :: t := hr
    injection hr' with h1 h2
    subst h1; subst h2
    rfl
  · have hge := Lib.index_ge r sep
    obtain ⟨i, hi⟩ : ∃ i : Nat, Lib.index r sep = (i : Int) := ⟨(Lib.index r sep).toNat, by omega⟩
    have hx' : Lib.index (c :: r) sep = ((i + 1 : Nat) : Int) := by
      rw [hx, hi]
      have : ¬ (((i : Int) == -1) = true) := by simp
      rw [if_neg this]; rfl
    rw [Lib.count_hit ho hi, Nat.add_comm 1, splitK_hit sep _ _ _ hi] at hr
    rw [Lib.count_hit ho hx', Nat.add_comm 1, splitK_hit sep _ _ _ hx']
    have e : (c :: r).drop (i + 1 + sep.length) = r.drop (i + sep.length) := by
      rw [show i + 1 + sep.length = (i + sep.length) + 1 by omega]; rfl
    rw [e]
    injection hr with h1 h2
    rw [h2, ← h1]; rfl

/-- the document's lines: what is ahead of the place, what is behind it -/
def linesD (cur : Str) (s : Str) : List Str :=
  match s with
  | [] => [cur]
  | c :: r => if c = 13 ∧ r.head? = some 10 then cur :: linesD [] r.tail else if c = 10 ∨ c = 13 then cur :: linesD [] r else linesD (cur ++ [c]) r
termination_by s.length
decreasing_by all_goals (simp; try omega)

def prep (s : Str) : Str := RK [13] [10] (RK [13, 10] [10] s)
theorem pre1 (c d : UInt8) (r : Str) : ([d] : Str).isPrefixOf (c :: r) = decide (d = c) := by
  simp only [List.isPrefixOf, Bool.and_true]
  rw [Bool.eq_iff_iff]; simp
theorem pre2 (c : UInt8) (r : Str) : ([13, 10] : Str).isPrefixOf (c :: r) = decide (c = 13 ∧ r.head? = some 10) := by
  cases r with
  | nil => simp [List.isPrefixOf]
  | cons d r =>
    simp only [List.isPrefixOf, Bool.and_true, List.head?_cons, Option.some.injEq]
    rw [Bool.eq_iff_iff]
    simp only [Bool.and_eq_true, beq_iff_eq, decide_eq_true_eq]
    constructor
    · rintro ⟨h1, h2⟩; exact ⟨h1.symm, h2.symm⟩
    · rintro ⟨h1, h2⟩; exact ⟨h1.symm, h2.symm⟩
theorem lines_eq : ∀ (n : Nat) (s : Str), s.length ≤ n → ∀ cur, ∃ h t, SK [10] (prep s) = h :: t ∧ linesD cur s = (cur ++ h) :: t
  | n, [], _, cur => by
    refine ⟨[], [], ?_, ?_⟩
    · unfold prep
      rw [RK_nil (by simp), RK_nil (by simp), SK_nil (by simp)]
    · rw [linesD]; simp
  | 0, c :: r, hn, cur => by simp at hn
  | n + 1, c :: r, hn, cur => by
    simp only [List.length_cons] at hn
    have p2 := pre2 c r
    by_cases h1 : c = 13 ∧ r.head? = some 10
    · rw [decide_eq_true h1] at p2
      obtain ⟨rfl, h2⟩ := h1
      cases r with
      | nil => cases h2
      | cons d r =>
        obtain rfl : d = 10 := by simpa using h2
        simp only [List.length_cons] at hn
        obtain ⟨h, t, e1, e2⟩ := lines_eq n r (by omega) []
        refine ⟨[], h :: t, ?_, ?_⟩
        · unfold prep at e1 ⊢
          rw [RK_hit (by simp) p2]
          show SK [10] (RK [13] [10] (10 :: RK [13, 10] [10] r)) = _
          rw [RK_miss (by simp) (by rw [pre1]; decide), SK_hit (by simp) (by rw [pre1]; decide)]
          show [] :: SK [10] (RK [13] [10] (RK [13, 10] [10] r)) = _
          rw [e1]
        · rw [linesD, if_pos ⟨rfl, rfl⟩]
          show cur :: linesD [] r = _
          rw [e2]; simp
    · rw [decide_eq_false h1] at p2
      have hp : prep (c :: r) = RK [13] [10] (c :: RK [13, 10] [10] r) := by
        unfold prep
        rw [RK_miss (by simp) p2]
      rw [linesD, if_neg h1, hp]
      by_cases h2 : c = 10 ∨ c = 13
      · obtain ⟨h, t, e1, e2⟩ := lines_eq n r (by omega) []
        rw [if_pos h2]
        refine ⟨[], h :: t, ?_, by rw [e2]; simp⟩
        have hq : RK [13] [10] (c :: RK [13, 10] [10] r) = 10 :: prep r := by
          rcases h2 with rfl | rfl
          · rw [RK_miss (by simp) (by rw [pre1]; decide)]; rfl
          · rw [RK_hit (by simp) (by rw [pre1]; decide)]; rfl
        rw [hq, SK_hit (by simp) (by rw [pre1]; decide)]
        show [] :: SK [10] (prep r) = _
        rw [e1]
      · obtain ⟨h, t, e1, e2⟩ := lines_eq n r (by omega) (cur ++ [c])
        rw [if_neg h2]
        refine ⟨c :: h, t, ?_, by rw [e2]; simp⟩
        rw [RK_miss (by simp) (by rw [pre1]; exact decide_eq_false (fun e => h2 (.inr e.symm)))]
        exact SK_miss (by simp) (by rw [pre1]; exact decide_eq_false (fun e => h2 (.inl e.symm))) e1
theorem RK_all {s old new : Str} (h : old ≠ new) : Lib.replaceAll s old new = RK old new s := by
  unfold Lib.replaceAll Lib.replace Lib.replaceNum RK
  have : ¬ ((old == new) = true) := by simpa using h
  rw [if_neg this, if_pos (.inl (by decide))]
theorem lines38_eq (s : Str) : lines38 s = linesD [] s := by
  obtain ⟨h, t, e1, e2⟩ := lines_eq s.length s (Nat.le_refl _) []
  unfold lines38
  rw [RK_all (by decide), RK_all (by decide)]
  show SK [10] (prep s) = _
  rw [e1, e2]; rfl
theorem linesD_ne (cur s : Str) : ∃ l r, linesD cur s = l :: r := by
  obtain ⟨h, t, _, e⟩ := lines_eq s.length s (Nat.le_refl _) cur
  exact ⟨_, _, e⟩
/-- no line is long, there are not many -/
theorem linesD_le : ∀ (n : Nat) (s : Str), s.length ≤ n → ∀ cur : Str, (∀ l ∈ linesD cur s, l.length ≤ cur.length + s.length) ∧ (linesD cur s).length ≤ s.length + 1
  | n, [], _, cur => by rw [linesD]; simp
  | 0, c :: r, hn, cur => by simp at hn
  | n + 1, c :: r, hn, cur => by
    simp only [List.length_cons] at hn
    rw [linesD]
    split
    · obtain ⟨i1, i2⟩ := linesD_le n r.tail (by simp; omega) []
      refine ⟨fun l hl => ?_, ?_⟩
      · rcases List.mem_cons.1 hl with rfl | hl
        · simp
        · have := i1 l hl
          simp at this ⊢; omega
      · simp at i2 ⊢; omega
    · split
      · obtain ⟨i1, i2⟩ := linesD_le n r (by omega) []
        refine ⟨fun l hl => ?_, ?_⟩
        · rcases List.mem_cons.1 hl with rfl | hl
          · simp
          · have := i1 l hl
            simp at this ⊢; omega
        · simp; omega
      · obtain ⟨i1, i2⟩ := linesD_le n r (by omega) (cur ++ [c])
        refine ⟨fun l hl => ?_, ?_⟩
        · have := i1 l hl
          simp at this ⊢; omega
        · simp; omega
theorem RK_le {old new : Str} (ho : old ≠ []) (hl : new.length ≤ old.length) : ∀ (n : Nat) (s : Str), s.length ≤ n → (RK old new s).length ≤ s.length
  | n, [], _ => by rw [RK_nil ho]; simp
  | 0, c :: r, hn => by simp at hn
  | n + 1, c :: r, hn => by
    have hol := List.length_pos_iff.2 ho
    simp only [List.length_cons] at hn
    cases hp : old.isPrefixOf (c :: r) with
    | true =>
      have h1 := List.IsPrefix.length_le (List.isPrefixOf_iff_prefix.1 hp)
      have h2 := RK_le ho hl n ((c :: r).drop old.length) (by simp; omega)
      rw [RK_hit ho hp, List.length_append]
      simp only [List.length_drop, List.length_cons] at h1 h2 ⊢
      omega
    | false =>
      have h2 := RK_le ho hl n r (by omega)
      rw [RK_miss ho hp]
      simp only [List.length_cons]
      omega

/-- Block, all in all -/
def blockF (s : Str) : Str := blkF (linesD [] s)
theorem ep38s (s : Str) (hs : s.length < 900000) (H : AH) : EP4 38 [.str s] H = some (.val (.str (blockF s)) H) := by
  obtain ⟨l, r, e⟩ := linesD_ne [] s
  have h1 : (Lib.replaceAll s [13, 10] [10]).length ≤ s.length := by
    rw [RK_all (by decide)]
    exact RK_le (by simp) (by simp) s.length s (Nat.le_refl _)
  have h2 : (Lib.replaceAll (Lib.replaceAll s [13, 10] [10]) [13] [10]).length ≤ s.length := by
    rw [RK_all (by decide)]
    exact Nat.le_trans (RK_le (by simp) (by simp) _ _ (Nat.le_refl _)) h1
  obtain ⟨i1, i2⟩ := linesD_le s.length s (Nat.le_refl _) []
  rw [e] at i1 i2
  have := ep38 s (l0 := l) (r := r) (by rw [lines38_eq, e]) (by omega) (by omega) (by omega) (fun x hx => by have := i1 x hx; simp at this; omega) (by simp at i2; omega) H
  unfold blockF
  rw [e]
  exact this
end T
