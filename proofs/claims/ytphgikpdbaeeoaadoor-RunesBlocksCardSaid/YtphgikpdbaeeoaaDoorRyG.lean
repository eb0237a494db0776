import Derived.Test.YtphgikpdbaeeoaaDoorRyE
import Derived.Test.YtphgikpdbaeeoaaDoorRdF
set_option linter.all false
set_option linter.unusedVariables false
set_option linter.unusedSimpArgs false
set_option maxRecDepth 10000
namespace T
open Go Go.Aes Go.Proofs

/-! ### the law of the blocks, plainly -/
def seps : List Str := [[10], [13], [13, 10]]
def fst' : Str := [102, 105, 114, 115, 116]
def sp (p : Nat) : Str := List.replicate p 32
def ln (p : Nat) : Str := sp p ++ [120]
def TT (sep : Str) (ps : List Nat) (rest : Str) : Str := match ps with
  | [] => rest
  | p :: ps => sep ++ (ln p ++ TT sep ps rest)
def NL (a : Str) : Prop := ∀ c ∈ a, ¬ (c = 10 ∨ c = 13)
theorem lin_plain : ∀ (a : Str), NL a → ∀ cur r, linesD cur (a ++ r) = linesD (cur ++ a) r
  | [], _, cur, r => by simp
  | c :: a, h, cur, r => by
    have hc := h c (by simp)
    rw [List.cons_append, linesD, if_neg (fun e => hc (.inr e.1)), if_neg hc, lin_plain a (fun x hx => h x (by simp [hx]))]
    simp
theorem lin_sep {sep : Str} (hs : sep ∈ seps) (cur r : Str) (hr : sep = [13] → r.head? ≠ some 10) : linesD cur (sep ++ r) = cur :: linesD [] r := by
  simp only [seps, List.mem_cons, List.not_mem_nil, or_false] at hs
  rcases hs with rfl | rfl | rfl
  · show linesD cur (10 :: r) = _
    rw [linesD, if_neg (fun e => by have := e.1; cases this), if_pos (.inl rfl)]
  · show linesD cur (13 :: r) = _
    rw [linesD, if_neg (fun e => hr rfl e.2), if_pos (.inr rfl)]
  · show linesD cur (13 :: 10 :: r) = _
    rw [linesD, if_pos ⟨rfl, rfl⟩]; rfl
theorem ln_nl (p : Nat) : NL (ln p) := by
  intro c hc
  rcases List.mem_append.1 hc with h | h
  · have := List.eq_of_mem_replicate h
    subst this
    decide
  · obtain rfl := List.mem_singleton.1 h
    decide
theorem ln_head (p : Nat) (r : Str) : (ln p ++ r).head? ≠ some 10 := by
  cases p with
  | zero => show some (120 : UInt8) ≠ some 10; decide
  | succ p => show some (32 : UInt8) ≠ some 10; decide
theorem lin_TT {sep : Str} (hs : sep ∈ seps) {rest : Str} {E : List Str} (hE : ∀ cur, linesD cur rest = cur :: E) : ∀ (ps : List Nat) (cur : Str), linesD cur (TT sep ps rest) = cur :: (ps.map ln ++ E)
  | [], cur => hE cur
  | p :: ps, cur => by
    show linesD cur (sep ++ (ln p ++ TT sep ps rest)) = _
    rw [lin_sep hs cur _ (fun _ => ln_head p _), lin_plain _ (ln_nl p), List.nil_append, lin_TT hs hE ps]
    rfl
theorem lin_nil (cur : Str) : linesD cur [] = cur :: [] := by rw [linesD]
theorem fst_nl : NL fst' := by unfold NL fst'; decide
theorem lin1 {sep : Str} (hs : sep ∈ seps) (ps : List Nat) : linesD [] (fst' ++ TT sep ps []) = fst' :: ps.map ln := by
  rw [lin_plain _ fst_nl, List.nil_append, lin_TT hs lin_nil, List.append_nil]
theorem lin3 {sep : Str} (hs : sep ∈ seps) (ps : List Nat) : linesD [] (sep ++ (fst' ++ TT sep ps [])) = [] :: fst' :: ps.map ln := by
  rw [lin_sep hs _ _ (fun _ => by show some (102 : UInt8) ≠ some 10; decide), lin1 hs]
theorem lin2 {sep : Str} (hs : sep ∈ seps) (ps : List Nat) : linesD [] (sep ++ ([32, 32] ++ (sep ++ (fst' ++ TT sep ps (sep ++ (sep ++ [32, 32, 32])))))) = [] :: [32, 32] :: fst' :: (ps.map ln ++ [[], [32, 32, 32]]) := by
  have hE : ∀ cur, linesD cur (sep ++ (sep ++ [32, 32, 32])) = cur :: [[], [32, 32, 32]] := by
    intro cur
    rw [lin_sep hs _ _ (fun e => by rw [e]; show some (13 : UInt8) ≠ some 10; decide), lin_sep hs _ _ (fun _ => by decide)]
    have := lin_plain [32, 32, 32] (by unfold NL; decide) [] []
    rw [List.append_nil] at this
    rw [this, lin_nil]; rfl
  rw [lin_sep hs _ _ (fun _ => by show some (32 : UInt8) ≠ some 10; decide), lin_plain [32, 32] (by unfold NL; decide), lin_sep hs _ _ (fun _ => by show some (102 : UInt8) ≠ some 10; decide), lin_plain _ fst_nl, List.nil_append, lin_TT hs hE]
  rfl

theorem ind_ln (p : Nat) : ind (ln p) = p := by
  induction p with
  | zero => rfl
  | succ p ih =>
    have e : ln (p + 1) = 32 :: ln p := rfl
    unfold ind at ih ⊢
    rw [e, List.takeWhile_cons]
    show ((32 : UInt8) :: (ln p).takeWhile isW).length = _
    rw [List.length_cons, ih]
theorem ln_len (p : Nat) : (ln p).length = p + 1 := by simp [ln, sp]
theorem blank_ln (p : Nat) : blank (ln p) = false := by
  unfold blank
  rw [ind_ln, ln_len]
  simp
theorem ln_drop (p m : Nat) (h : m ≤ p) : (ln p).drop m = ln (p - m) := by
  unfold ln sp
  rw [List.drop_append_of_le_length (by simpa using h), List.drop_replicate]
theorem cmn_ln : ∀ (ps : List Nat) (c : Nat), cmn (c : Int) (ps.map ln) = ((ps.foldl min c : Nat) : Int)
  | [], c => rfl
  | p :: ps, c => by
    show cmn (if ind (ln p) < (ln p).length ∧ ((c : Int) < 0 ∨ (ind (ln p) : Int) < (c : Int)) then (ind (ln p) : Int) else (c : Int)) (ps.map ln) = _
    rw [ind_ln, ln_len]
    by_cases h : p < c
    · rw [if_pos ⟨by omega, .inr (by omega)⟩, cmn_ln ps p, List.foldl_cons, Nat.min_eq_right (by omega)]
    · rw [if_neg (fun e => e.2.elim (fun e => by omega) (fun e => h (by omega))), cmn_ln ps c, List.foldl_cons, Nat.min_eq_left (by omega)]
theorem cmn_zero : ∀ r : List Str, cmn 0 r = 0
  | [] => rfl
  | l :: r => by
    show cmn (if ind l < l.length ∧ ((0 : Int) < 0 ∨ (ind l : Int) < 0) then (ind l : Int) else 0) r = 0
    rw [if_neg (fun e => e.2.elim (fun e => by omega) (fun e => by omega))]
    exact cmn_zero r
theorem foldl_min_le : ∀ (ps : List Nat) (c : Nat), ps.foldl min c ≤ c ∧ ∀ p ∈ ps, ps.foldl min c ≤ p
  | [], c => ⟨Nat.le_refl _, fun p h => by cases h⟩
  | q :: ps, c => by
    obtain ⟨h1, h2⟩ := foldl_min_le ps (min c q)
    rw [List.foldl_cons]
    refine ⟨by omega, fun p hp => ?_⟩
    rcases List.mem_cons.1 hp with rfl | hp
    · omega
    · exact h2 p hp
theorem trimE_all {l : List Str} (h : ∀ x ∈ l, blank x = false) : trimE l = l := by
  unfold trimE
  cases hr : l.reverse with
  | nil =>
    have := congrArg List.reverse hr
    rw [List.reverse_reverse] at this
    rw [this]; rfl
  | cons x r =>
    have hx : x ∈ l := by rw [← List.mem_reverse, hr]; simp
    rw [List.dropWhile_cons, h x hx]
    show (x :: r).reverse = l
    rw [← hr, List.reverse_reverse]
def UU (m : Nat) (ps : List Nat) : Str := ps.flatMap fun p => [10] ++ ln (p - m)
theorem blank_fst : blank fst' = false := by decide
theorem dw_fst (r : List Str) : (fst' :: r).dropWhile blank = fst' :: r := by rw [List.dropWhile_cons, blank_fst]; rfl

theorem blk1 {ps : List Nat} (hp : ∀ p ∈ ps, p ≤ 6) : blkF (fst' :: ps.map ln) = fst' ++ UU (ps.foldl min 99) ps := by
  have hc : (ps.map ln).map (cutL (cmn (-1) (ps.map ln))) = ps.map fun p => ln (p - ps.foldl min 99) := by
    cases ps with
    | nil => rfl
    | cons q ps =>
      have e : cmn (-1) ((q :: ps).map ln) = (((q :: ps).foldl min 99 : Nat) : Int) := by
        show cmn (if ind (ln q) < (ln q).length ∧ ((-1 : Int) < 0 ∨ (ind (ln q) : Int) < -1) then (ind (ln q) : Int) else -1) (ps.map ln) = _
        have := hp q (by simp)
        rw [ind_ln, ln_len, if_pos ⟨by omega, .inl (by decide)⟩, cmn_ln, List.foldl_cons, Nat.min_eq_right (by omega)]
      rw [e, List.map_map]
      refine List.map_congr_left fun p hpm => ?_
      have h2 := (foldl_min_le (q :: ps) 99).2 p hpm
      show (ln p).drop (min (Int.toNat (((q :: ps).foldl min 99 : Nat) : Int)) (ind (ln p))) = _
      rw [ind_ln, Int.toNat_natCast, Nat.min_eq_left h2, ln_drop _ _ h2]
  show Lib.join (trimE ((fst' :: (ps.map ln).map (cutL (cmn (-1) (ps.map ln)))).dropWhile blank)) [10] = _
  rw [hc, dw_fst, trimE_all, Lib.join_cons]
  · unfold Lib.joinTail UU
    rw [List.map_map, List.flatMap_def]; rfl
  · intro x hx
    rcases List.mem_cons.1 hx with rfl | hx
    · exact blank_fst
    · obtain ⟨p, _, rfl⟩ := List.mem_map.1 hx
      exact blank_ln _
theorem lns_nb (ps : List Nat) : ∀ x ∈ fst' :: ps.map ln, blank x = false := by
  intro x hx
  rcases List.mem_cons.1 hx with rfl | hx
  · exact blank_fst
  · obtain ⟨p, _, rfl⟩ := List.mem_map.1 hx
    exact blank_ln _
theorem cmn_fst (r : List Str) : cmn (-1) (fst' :: r) = 0 := by
  show cmn (if ind fst' < fst'.length ∧ ((-1 : Int) < 0 ∨ (ind fst' : Int) < -1) then (ind fst' : Int) else -1) r = 0
  rw [if_pos (by decide)]
  exact cmn_zero r
theorem blk3 (ps : List Nat) : blkF ([] :: fst' :: ps.map ln) = Lib.join (fst' :: ps.map ln) [10] := by
  show Lib.join (trimE (([] :: (fst' :: ps.map ln).map (cutL (cmn (-1) (fst' :: ps.map ln)))).dropWhile blank)) [10] = _
  rw [cmn_fst, cutL_none (by decide), List.dropWhile_cons]
  show Lib.join (trimE ((fst' :: ps.map ln).dropWhile blank)) [10] = _
  rw [dw_fst, trimE_all (lns_nb ps)]
theorem blk2 (ps : List Nat) : blkF ([] :: [32, 32] :: fst' :: (ps.map ln ++ [[], [32, 32, 32]])) = Lib.join (fst' :: ps.map ln) [10] := by
  have e : cmn (-1) ([32, 32] :: fst' :: (ps.map ln ++ [[], [32, 32, 32]])) = 0 := by
    show cmn (if ind [32, 32] < ([32, 32] : Str).length ∧ ((-1 : Int) < 0 ∨ (ind [32, 32] : Int) < -1) then (ind [32, 32] : Int) else -1) (fst' :: (ps.map ln ++ [[], [32, 32, 32]])) = 0
    rw [if_neg (by decide)]
    exact cmn_fst _
  show Lib.join (trimE (([] :: ([32, 32] :: fst' :: (ps.map ln ++ [[], [32, 32, 32]])).map (cutL (cmn (-1) ([32, 32] :: fst' :: (ps.map ln ++ [[], [32, 32, 32]]))))).dropWhile blank)) [10] = _
  rw [e, cutL_none (by decide), List.dropWhile_cons]
  show Lib.join (trimE (([32, 32] :: fst' :: (ps.map ln ++ [[], [32, 32, 32]])).dropWhile blank)) [10] = _
  rw [List.dropWhile_cons]
  show Lib.join (trimE ((fst' :: (ps.map ln ++ [[], [32, 32, 32]])).dropWhile blank)) [10] = _
  rw [dw_fst]
  have e2 : fst' :: (ps.map ln ++ [[], [32, 32, 32]]) = ((fst' :: ps.map ln) ++ [[]]) ++ [[32, 32, 32]] := by simp
  rw [e2, trimE_snoc, if_pos (by decide), trimE_snoc, if_pos (by decide), trimE_all (lns_nb ps)]

theorem TT_app (sep : Str) (rest : Str) : ∀ ps : List Nat, TT sep ps rest = TT sep ps [] ++ rest
  | [] => rfl
  | p :: ps => by
    show sep ++ (ln p ++ TT sep ps rest) = (sep ++ (ln p ++ TT sep ps [])) ++ rest
    rw [TT_app sep rest ps]; simp
theorem TT_snoc (sep : Str) (p : Nat) : ∀ ps : List Nat, TT sep (ps ++ [p]) [] = TT sep ps [] ++ sep ++ sp p ++ [120]
  | [] => by
    show sep ++ (ln p ++ []) = [] ++ sep ++ sp p ++ [120]
    simp [ln]
  | q :: ps => by
    show sep ++ (ln q ++ TT sep (ps ++ [p]) []) = (sep ++ (ln q ++ TT sep ps [])) ++ sep ++ sp p ++ [120]
    rw [TT_snoc sep p ps]; simp
theorem UU_snoc (m : Nat) (ps : List Nat) (p : Nat) : UU m (ps ++ [p]) = UU m ps ++ [10] ++ sp (p - m) ++ [120] := by
  unfold UU
  simp [ln]
theorem sep_len {sep : Str} (hs : sep ∈ seps) : sep.length ≤ 2 := by
  simp only [seps, List.mem_cons, List.not_mem_nil, or_false] at hs
  rcases hs with rfl | rfl | rfl <;> decide
theorem TT_len {sep : Str} (hs : sep ∈ seps) : ∀ ps : List Nat, (∀ p ∈ ps, p ≤ 6) → (TT sep ps []).length ≤ 9 * ps.length
  | [], _ => by simp [TT]
  | p :: ps, h => by
    have h1 := TT_len hs ps (fun x hx => h x (by simp [hx]))
    have h2 := sep_len hs
    have h3 := h p (by simp)
    show (sep ++ (ln p ++ TT sep ps [])).length ≤ _
    simp only [List.length_append, List.length_cons, ln_len]
    omega
theorem UU_len (m : Nat) : ∀ ps : List Nat, (∀ p ∈ ps, p ≤ 6) → (UU m ps).length ≤ 8 * ps.length
  | [], _ => by simp [UU]
  | p :: ps, h => by
    have h1 := UU_len m ps (fun x hx => h x (by simp [hx]))
    have h3 := h p (by simp)
    have e : UU m (p :: ps) = [10] ++ ln (p - m) ++ UU m ps := by unfold UU; simp
    rw [e]
    simp only [List.length_append, List.length_cons, List.length_nil, ln_len]
    omega
end T
