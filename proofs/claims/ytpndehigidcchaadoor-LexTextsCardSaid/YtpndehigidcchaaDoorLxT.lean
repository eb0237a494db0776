import Derived.Test.YtpndehigidcchaaDoorLxR
set_option linter.all false
set_option linter.unusedVariables false
set_option linter.unusedSimpArgs false
set_option maxRecDepth 10000
namespace T
open Go Go.Aes Go.Proofs

/-! ### texts by numbers, plainly -/
def escL8 : List Str := [[97], [92, 110], [92, 34], [92, 92], [92, 117, 48, 48, 52, 49], [32], [35], [92, 47]]
def sayL8 : List Str := [[97], [10], [34], [92], [65], [32], [35], [47]]
def blkL8 : List Str := [[97], [92, 110], [92, 34, 34, 34], [34], [92, 117, 48, 48, 52, 49], [98], [35], [92, 47]]
def rawL8 : List Str := [[97], [92, 110], [34, 34, 34], [34], [92, 117, 48, 48, 52, 49], [98], [35], [92, 47]]
def cat8 (L : List Str) (d : Str) : List Nat → Str
  | [] => []
  | k :: r => L.getD k [] ++ d ++ cat8 L d r
theorem cat8_app (L : List Str) (d : Str) : ∀ (ks : List Nat) (k : Nat), cat8 L d (ks ++ [k]) = cat8 L d ks ++ L.getD k [] ++ d
  | [], k => by simp [cat8]
  | a :: ks, k => by
    rw [List.cons_append]
    simp only [cat8]
    rw [cat8_app L d ks k]
    simp
theorem cat8_len (L : List Str) (d : Str) (n : Nat) (h : ∀ k, (L.getD k []).length + d.length ≤ n) : ∀ ks : List Nat, (cat8 L d ks).length ≤ n * ks.length
  | [] => by simp [cat8]
  | k :: ks => by
    have := cat8_len L d n h ks
    have := h k
    simp only [cat8, List.length_append, List.length_cons, Nat.mul_add, Nat.mul_one]
    omega
theorem cat8_all (p : UInt8 → Bool) (L : List Str) (d : Str) (h : ∀ k, k < 8 → (L.getD k [] ++ d).all p = true) : ∀ ks : List Nat, (∀ k ∈ ks, k < 8) → (cat8 L d ks).all p = true
  | [], _ => rfl
  | k :: ks, hk => by
    simp only [cat8]
    rw [List.all_append, h k (hk k (by simp)), cat8_all p L d h ks (fun x hx => hk x (by simp [hx]))]
    rfl
theorem hex41 (y : Str) : pointF (48 :: 48 :: 52 :: 49 :: y) = some (65, 4) := by
  have h : hexN [48, 48, 52, 49] 0 = some 65 := by decide
  have : fourF (48 :: 48 :: 52 :: 49 :: y) = some 65 := by
    unfold fourF
    rw [if_neg (by simp)]
    exact h
  simp [pointF, this]
theorem unq1 {b : UInt8} (h : ¬ (b.toNat < 32 ∨ b = 34)) (h2 : b ≠ 92) (y : Str) : unqF (b :: y) = (unqF y).map (b :: ·) := by rw [unqF_cons, if_neg h, if_pos h2]
theorem unq2 {c : UInt8} {d : UInt8} (h : c ≠ 117) (h1 : ¬ Lib.indexByte escd c < 0) (h2 : plain.getD (Lib.indexByte escd c).toNat 0 = d) (y : Str) : unqF (92 :: c :: y) = (unqF y).map (d :: ·) := by
  rw [unqF_cons, if_neg (by decide), if_neg (by decide)]
  simp only
  rw [if_neg h, if_neg h1, h2]
theorem unq8 (k : Nat) (hk : k < 8) (y : Str) : unqF (escL8.getD k [] ++ y) = (unqF y).map (sayL8.getD k [] ++ ·) := by
  match k, hk with
  | 0, _ => exact unq1 (by decide) (by decide) y
  | 1, _ => exact unq2 (c := 110) (d := 10) (by decide) (by decide) (by decide) y
  | 2, _ => exact unq2 (c := 34) (d := 34) (by decide) (by decide) (by decide) y
  | 3, _ => exact unq2 (c := 92) (d := 92) (by decide) (by decide) (by decide) y
  | 4, _ =>
    show unqF (92 :: 117 :: 48 :: 48 :: 52 :: 49 :: y) = _
    rw [unqF_cons, if_neg (by decide), if_neg (by decide)]
    simp only
    rw [if_pos trivial, hex41]
    rfl
  | 5, _ => exact unq1 (by decide) (by decide) y
  | 6, _ => exact unq1 (by decide) (by decide) y
  | 7, _ => exact unq2 (c := 47) (d := 47) (by decide) (by decide) (by decide) y
theorem unq_cat : ∀ ks : List Nat, (∀ k ∈ ks, k < 8) → unqF (cat8 escL8 [] ks) = some (cat8 sayL8 [] ks)
  | [], _ => rfl
  | k :: ks, h => by
    simp only [cat8, List.append_nil]
    rw [unq8 k (h k (by simp)), unq_cat ks (fun x hx => h x (by simp [hx]))]
    rfl
theorem lin1 {b : UInt8} (h : b ≠ 34) (h2 : b ≠ 92) (y : Str) : linF (b :: y) = (linF y).map (· + 1) := by
  conv => lhs; unfold linF
  rw [if_neg h, if_neg h2]
theorem lin2 (c : UInt8) (y : Str) : linF (92 :: c :: y) = (linF y).map (· + 2) := by
  conv => lhs; unfold linF
  rw [if_neg (by decide), if_pos rfl]
theorem lin8 (k : Nat) (hk : k < 8) (y : Str) : linF (escL8.getD k [] ++ y) = (linF y).map (· + (escL8.getD k []).length) := by
  match k, hk with
  | 0, _ => exact lin1 (by decide) (by decide) y
  | 1, _ => exact lin2 110 y
  | 2, _ => exact lin2 34 y
  | 3, _ => exact lin2 92 y
  | 4, _ =>
    show linF (92 :: 117 :: 48 :: 48 :: 52 :: 49 :: y) = _
    rw [lin2, lin1 (by decide) (by decide), lin1 (by decide) (by decide), lin1 (by decide) (by decide), lin1 (by decide) (by decide)]
    simp only [Option.map_map]
    rfl
  | 5, _ => exact lin1 (by decide) (by decide) y
  | 6, _ => exact lin1 (by decide) (by decide) y
  | 7, _ => exact lin2 47 y
theorem lin_cat (y : Str) : ∀ ks : List Nat, (∀ k ∈ ks, k < 8) → linF (cat8 escL8 [] ks ++ 34 :: y) = some (cat8 escL8 [] ks).length
  | [], _ => by show linF (34 :: y) = some 0; unfold linF; rw [if_pos rfl]
  | k :: ks, h => by
    simp only [cat8, List.append_nil, List.append_assoc]
    rw [lin8 k (h k (by simp)), lin_cat y ks (fun x hx => h x (by simp [hx]))]
    simp [Nat.add_comm]
theorem hp4 {b : UInt8} {r : Str} (h : b ≠ 92) : hp (b :: r) [92, 34, 34, 34] = false := by rw [hp_cons, decide_eq_false h, Bool.false_and]
theorem hp3 {b : UInt8} {r : Str} (h : b ≠ 34) : hp (b :: r) [34, 34, 34] = false := by rw [hp_cons, decide_eq_false h, Bool.false_and]
theorem bk1 {b : UInt8} {r : Str} (h1 : hp (b :: r) [92, 34, 34, 34] = false) (h2 : hp (b :: r) [34, 34, 34] = false) : bkF (b :: r) = (bkF r).map fun q => (b :: q.1, q.2 + 1) := by
  rw [bkF_cons, if_neg (by rw [h1]; simp), if_neg (by rw [h2]; simp)]
theorem bkn {b : UInt8} (h1 : b ≠ 92) (h2 : b ≠ 34) (r : Str) : bkF (b :: r) = (bkF r).map fun q => (b :: q.1, q.2 + 1) := bk1 (hp4 h1) (hp3 h2)
theorem bke (c : UInt8) (h : c ≠ 34) (r : Str) : bkF (92 :: c :: r) = (bkF (c :: r)).map fun q => (92 :: q.1, q.2 + 1) :=
  bk1 (by rw [hp_cons, hp_cons, decide_eq_false h]; simp) (hp3 (by decide))
theorem map2 (o : Option (Str × Nat)) (f g : Str × Nat → Str × Nat) (h : Str × Nat → Str × Nat) (e : ∀ q, f (g q) = h q) : (o.map g).map f = o.map h := by
  rw [Option.map_map]
  congr 1
  funext q
  exact e q
theorem bk8 (k : Nat) (hk : k < 8) (y : Str) : bkF (blkL8.getD k [] ++ [46] ++ y) = (bkF y).map fun q => (rawL8.getD k [] ++ [46] ++ q.1, q.2 + ((blkL8.getD k []).length + 1)) := by
  have dot : bkF (46 :: y) = (bkF y).map fun q => (46 :: q.1, q.2 + 1) := bkn (by decide) (by decide) y
  match k, hk with
  | 0, _ =>
    show bkF (97 :: 46 :: y) = _
    rw [bkn (by decide) (by decide), dot]
    exact map2 _ _ _ _ fun q => rfl
  | 1, _ =>
    show bkF (92 :: 110 :: 46 :: y) = _
    rw [bke _ (by decide), bkn (by decide) (by decide), dot, map2 _ _ _ _ (fun q => rfl), map2 _ _ _ _ (fun q => rfl)]
    rfl
  | 2, _ =>
    show bkF (92 :: 34 :: 34 :: 34 :: 46 :: y) = _
    rw [bkF_cons, if_pos (by rw [hp_cons, hp_cons, hp_cons, hp_cons, hp_nil]; decide)]
    show (bkF (46 :: y)).map _ = _
    rw [dot]
    exact map2 _ _ _ _ fun q => rfl
  | 3, _ =>
    show bkF (34 :: 46 :: y) = _
    rw [bk1 (hp4 (by decide)) (by rw [hp_cons, hp_cons]; simp), dot]
    exact map2 _ _ _ _ fun q => rfl
  | 4, _ =>
    show bkF (92 :: 117 :: 48 :: 48 :: 52 :: 49 :: 46 :: y) = _
    rw [bke _ (by decide), bkn (by decide) (by decide), bkn (by decide) (by decide), bkn (by decide) (by decide), bkn (by decide) (by decide), bkn (by decide) (by decide), dot]
    simp only [Option.map_map]
    congr 1
  | 5, _ =>
    show bkF (98 :: 46 :: y) = _
    rw [bkn (by decide) (by decide), dot]
    exact map2 _ _ _ _ fun q => rfl
  | 6, _ =>
    show bkF (35 :: 46 :: y) = _
    rw [bkn (by decide) (by decide), dot]
    exact map2 _ _ _ _ fun q => rfl
  | 7, _ =>
    show bkF (92 :: 47 :: 46 :: y) = _
    rw [bke _ (by decide), bkn (by decide) (by decide), dot, map2 _ _ _ _ (fun q => rfl), map2 _ _ _ _ (fun q => rfl)]
    rfl
theorem bk_end (y : Str) : bkF (34 :: 34 :: 34 :: y) = some ([], 3) := by
  rw [bkF_cons, if_neg (by rw [hp_cons]; simp), if_pos (by rw [hp_cons, hp_cons, hp_cons, hp_nil]; decide)]
theorem bk_cat (y : Str) : ∀ ks : List Nat, (∀ k ∈ ks, k < 8) → bkF (cat8 blkL8 [46] ks ++ 34 :: 34 :: 34 :: y) = some (cat8 rawL8 [46] ks, (cat8 blkL8 [46] ks).length + 3)
  | [], _ => bk_end y
  | k :: ks, h => by
    simp only [cat8]
    rw [List.append_assoc _ (cat8 blkL8 [46] ks), bk8 k (h k (by simp)), bk_cat y ks (fun x hx => h x (by simp [hx]))]
    simp only [Option.map_some, Option.some.injEq, Prod.mk.injEq, true_and, List.length_append, List.length_cons, List.length_nil]
    omega
theorem linesD_one : ∀ (s cur : Str), (∀ c ∈ s, c ≠ 10 ∧ c ≠ 13) → linesD cur s = [cur ++ s]
  | [], cur, _ => by rw [linesD]; simp
  | c :: r, cur, h => by
    have hc := h c (by simp)
    rw [linesD, if_neg (by rintro ⟨h1, _⟩; exact hc.2 h1), if_neg (by rintro (h1 | h1); exact hc.1 h1; exact hc.2 h1), linesD_one r (cur ++ [c]) (fun x hx => h x (by simp [hx]))]
    simp
theorem blank_x (s : Str) : blank (120 :: s) = false := by
  unfold blank ind
  rw [List.takeWhile_cons]
  rfl
theorem block_one (s : Str) (h : ∀ c ∈ s, c ≠ 10 ∧ c ≠ 13) : blockF (120 :: s) = 120 :: s := by
  unfold blockF
  rw [linesD_one (120 :: s) [] (fun c hc => by
    rcases List.mem_cons.1 hc with rfl | hc
    · decide
    · exact h c hc), List.nil_append]
  unfold blkF
  have h1 : (ddL [120 :: s]).dropWhile blank = [120 :: s] := by
    show ([120 :: s] : List Str).dropWhile blank = _
    rw [List.dropWhile_cons, blank_x]
    rfl
  have h2 : trimE [120 :: s] = [120 :: s] := by
    have := trimE_snoc [] (120 :: s)
    rw [blank_x] at this
    exact this
  rw [h1, h2, Lib.join_cons]
  simp [Lib.joinTail]
theorem all_asc {s : Str} (h : s.all (fun c => decide (c.toNat < 128)) = true) : Lib.validD s = true := by
  have := asc_valid s [] (fun c hc => by simpa using List.all_eq_true.1 h c hc)
  rw [List.append_nil] at this
  rw [this]
  decide

theorem lex_5 (k : Nat) : lexF [53] k = .inr [(2, [53], k)] := by
  rw [lexF_cons, if_neg (by decide), if_neg (by decide), show tokF [53] = some (2, [53], 1) by decide +kernel]
  rfl
theorem lex_br (k : Nat) : lexF [123] k = .inr [(5, [123], k)] := by
  rw [lexF_cons, if_neg (by decide), if_neg (by decide), show tokF [123] = some (5, [123], 1) by decide +kernel]
  rfl
theorem lexF_tok {c : UInt8} {r : Str} {q : Tok} (hb : lxB c = false) (h35 : c ≠ 35) (ht : tokF (c :: r) = some q) (k : Nat) : lexF (c :: r) k = match lexF ((c :: r).drop q.2.2) (k + q.2.2) with
    | .inl e => .inl e
    | .inr l => .inr ((q.1, q.2.1, k) :: l) := by
  rw [lexF_cons, if_neg (by rw [hb]; simp), if_neg h35, ht]
  simp only
  cases lexF ((c :: r).drop q.2.2) (k + q.2.2) <;> rfl
theorem tok_q {r : Str} : tokF (34 :: r) = if hp (34 :: r) [34, 34, 34] = true then (blockT (34 :: r)).map fun q => (4, q.1, q.2) else (lineT (34 :: r)).map fun q => (4, q.1, q.2) := by
  unfold tokF
  simp only
  rw [if_neg (by decide), if_neg (by decide)]
  split
  · rfl
  · rw [if_pos trivial]
theorem esc_no : ∀ k, k < 8 → (escL8.getD k [] ++ ([] : Str)).all (fun c => !decide (c = 10) && !decide (c = 13) && decide (c.toNat < 128)) = true := by decide
theorem raw_no : ∀ k, k < 8 → (rawL8.getD k [] ++ ([46] : Str)).all (fun c => !decide (c = 10) && !decide (c = 13) && decide (c.toNat < 128) && !ctl c) = true := by decide
theorem esc_hd : ∀ k, k < 8 → ∃ c r, escL8.getD k [] = c :: r ∧ c ≠ 34 := by
  intro k hk
  match k, hk with
  | 0, _ => exact ⟨_, _, rfl, by decide⟩
  | 1, _ => exact ⟨_, _, rfl, by decide⟩
  | 2, _ => exact ⟨_, _, rfl, by decide⟩
  | 3, _ => exact ⟨_, _, rfl, by decide⟩
  | 4, _ => exact ⟨_, _, rfl, by decide⟩
  | 5, _ => exact ⟨_, _, rfl, by decide⟩
  | 6, _ => exact ⟨_, _, rfl, by decide⟩
  | 7, _ => exact ⟨_, _, rfl, by decide⟩
theorem text_law (ks : List Nat) (h : ∀ k ∈ ks, k < 8) : ∃ j, lexF ([34] ++ cat8 escL8 [] ks ++ [34, 32, 53]) 0 = .inr [(4, cat8 sayL8 [] ks, 0), (2, [53], j)] := by
  have hall := cat8_all _ escL8 [] esc_no ks h
  have hlin := lin_cat [32, 53] ks h
  have hunq := unq_cat ks h
  have hno3 : hp (34 :: (cat8 escL8 [] ks ++ [34, 32, 53])) [34, 34, 34] = false := by
    rw [hp_cons]
    cases ks with
    | nil => rfl
    | cons k ks =>
      obtain ⟨c, r, e, hc⟩ := esc_hd k (h k (by simp))
      simp only [cat8, e, List.append_nil, List.cons_append]
      rw [hp_cons, decide_eq_false hc]
      simp
  generalize cat8 escL8 [] ks = E at *
  generalize cat8 sayL8 [] ks = W at *
  have e : [34] ++ E ++ [34, 32, 53] = 34 :: (E ++ [34, 32, 53]) := by simp
  rw [e]
  have hcr : crlf (34 :: E) = false := by
    unfold crlf
    rw [List.any_eq_false]
    intro c hc
    rcases List.mem_cons.1 hc with rfl | hc
    · decide
    · have := List.all_eq_true.1 hall c hc
      simp only [Bool.and_eq_true, Bool.not_eq_true', decide_eq_false_iff_not] at this
      simp [this.1.1, this.1.2]
  have hval : Lib.validD E = true := all_asc (by
    rw [List.all_eq_true]
    intro c hc
    have := List.all_eq_true.1 hall c hc
    simp only [Bool.and_eq_true] at this
    exact this.2)
  have hlt : lineT (34 :: (E ++ [34, 32, 53])) = some (W, E.length + 2) := by
    unfold lineT
    rw [List.drop_succ_cons, List.drop_zero, hlin]
    simp only
    have t1 : (34 :: (E ++ [34, 32, 53])).take (E.length + 1) = 34 :: E := by simp
    have t2 : (34 :: (E ++ [34, 32, 53])).take (E.length + 2) = 34 :: (E ++ [34]) := by
      rw [show E ++ [34, 32, 53] = (E ++ [34]) ++ [32, 53] by simp, List.take_succ_cons, List.take_append_of_le_length (by simp), List.take_of_length_le (by simp)]
    rw [t1, t2, hcr, if_neg (by simp), uqF_mid, if_pos hval, hunq]
    rfl
  have ht : tokF (34 :: (E ++ [34, 32, 53])) = some (4, W, E.length + 2) := by
    rw [tok_q, if_neg (by rw [hno3]; simp), hlt]
    rfl
  refine ⟨0 + (E.length + 2) + 1, ?_⟩
  rw [lexF_tok (by decide) (by decide) ht]
  have hd : (34 :: (E ++ [34, 32, 53])).drop (E.length + 2) = [32, 53] := by
    rw [show E ++ [34, 32, 53] = (E ++ [34]) ++ [32, 53] by simp, List.drop_succ_cons, List.drop_append_of_le_length (by simp), List.drop_of_length_le (by simp)]
    rfl
  simp only
  rw [hd, lex_blank (by decide), lex_5]
theorem blk_law (ks : List Nat) (h : ∀ k ∈ ks, k < 8) : ∃ j, lexF ([34, 34, 34, 120] ++ cat8 blkL8 [46] ks ++ [34, 34, 34, 123]) 0 = .inr [(4, [120] ++ cat8 rawL8 [46] ks, 0), (5, [123], j)] := by
  have hall := cat8_all _ rawL8 [46] raw_no ks h
  have hbk := bk_cat [123] ks h
  generalize cat8 blkL8 [46] ks = E at *
  generalize cat8 rawL8 [46] ks = W at *
  have e : [34, 34, 34, 120] ++ E ++ [34, 34, 34, 123] = 34 :: 34 :: 34 :: 120 :: (E ++ [34, 34, 34, 123]) := by simp
  rw [e]
  have hrb : rawB (120 :: W) = true := by
    unfold rawB
    have h1 : (120 :: W).any ctl = false := by
      rw [List.any_eq_false]
      intro c hc
      rcases List.mem_cons.1 hc with rfl | hc
      · decide
      · have := List.all_eq_true.1 hall c hc
        simp only [Bool.and_eq_true, Bool.not_eq_true'] at this
        rw [this.2]; simp
    have h2 : Lib.validD (120 :: W) = true := all_asc (by
      rw [List.all_eq_true]
      intro c hc
      rcases List.mem_cons.1 hc with rfl | hc
      · decide
      · have := List.all_eq_true.1 hall c hc
        simp only [Bool.and_eq_true] at this
        exact this.1.2)
    rw [h1, h2]; rfl
  have hbl : blockF (120 :: W) = 120 :: W := block_one W fun c hc => by
    have := List.all_eq_true.1 hall c hc
    simp only [Bool.and_eq_true, Bool.not_eq_true', decide_eq_false_iff_not] at this
    exact ⟨this.1.1.1, this.1.1.2⟩
  have hbt : blockT (34 :: 34 :: 34 :: 120 :: (E ++ [34, 34, 34, 123])) = some (120 :: W, E.length + 7) := by
    unfold blockT
    simp only [List.drop_succ_cons, List.drop_zero]
    rw [bkn (by decide) (by decide), hbk]
    simp only [Option.map_some]
    rw [hrb, if_pos rfl, hbl]
  have ht : tokF (34 :: 34 :: 34 :: 120 :: (E ++ [34, 34, 34, 123])) = some (4, 120 :: W, E.length + 7) := by
    rw [tok_q, if_pos (by rw [hp_cons, hp_cons, hp_cons, hp_nil]; decide), hbt]
    rfl
  refine ⟨0 + (E.length + 7), ?_⟩
  rw [lexF_tok (by decide) (by decide) ht]
  have hd : (34 :: 34 :: 34 :: 120 :: (E ++ [34, 34, 34, 123])).drop (E.length + 7) = [123] := by
    rw [show E ++ [34, 34, 34, 123] = (E ++ [34, 34, 34]) ++ [123] by simp]
    simp only [List.drop_succ_cons]
    rw [List.drop_append_of_le_length (by simp), List.drop_of_length_le (by simp)]
    rfl
  simp only
  rw [hd, lex_br]
  rfl
end T
