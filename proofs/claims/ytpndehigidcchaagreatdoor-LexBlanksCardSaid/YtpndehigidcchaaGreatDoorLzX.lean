import Derived.Test.YtpndehigidcchaaGreatDoorLxY
import Derived.Test.YtpndehigidcchaaGreatDoorLxR
set_option linter.all false
set_option linter.unusedVariables false
set_option linter.unusedSimpArgs false
set_option maxRecDepth 10000
namespace T
open Go Go.Aes Go.Proofs
def gp : Bool → Str → Option Bool
  | st, [] => some st
  | true, c :: r => gp (lxH c) r
  | false, c :: r => if lxB c = true then gp false r else if c = 35 then gp true r else none
theorem gp_app : ∀ (g h : Str) (st : Bool), gp st (g ++ h) = (gp st g).bind fun st' => gp st' h
  | [], h, st => by cases st <;> rfl
  | c :: g, h, true => by
    show gp (lxH c) (g ++ h) = (gp (lxH c) g).bind _
    exact gp_app g h _
  | c :: g, h, false => by
    show (if lxB c = true then gp false (g ++ h) else if c = 35 then gp true (g ++ h) else none) = ((if lxB c = true then gp false g else if c = 35 then gp true g else none).bind _)
    split
    · exact gp_app g h _
    · split
      · exact gp_app g h _
      · rfl
theorem gp_pre {g h : Str} {st st' : Bool} (e : gp st (g ++ h) = some st') : ∃ st2, gp st g = some st2 := by
  rw [gp_app] at e
  cases hx : gp st g with
  | none => rw [hx] at e; cases e
  | some s2 => exact ⟨s2, rfl⟩
theorem nl_blank {c : UInt8} (h : lxH c = false) : lxB c = true := by
  unfold lxH at h
  simp only [Bool.and_eq_false_iff, Bool.not_eq_false', decide_eq_true_eq] at h
  rcases h with rfl | rfl <;> decide
theorem gp_true : ∀ (g : Str) (st : Bool), gp true g = some st → (g.all lxH = true ∧ st = true) ∨ (spn lxH g < g.length ∧ gp false (g.drop (spn lxH g)) = some st)
  | [], st, h => by
    injection h with h
    exact .inl ⟨rfl, h.symm⟩
  | c :: g, st, h => by
    have h' : gp (lxH c) g = some st := h
    cases hc : lxH c with
    | true =>
      rw [hc] at h'
      rw [spn_cons, if_pos hc]
      rcases gp_true g st h' with ⟨h1, h2⟩ | ⟨h1, h2⟩
      · exact .inl ⟨by simp [hc, h1], h2⟩
      · exact .inr ⟨by simp; omega, h2⟩
    | false =>
      rw [hc] at h'
      rw [spn_cons, if_neg (by rw [hc]; simp)]
      refine .inr ⟨by simp, ?_⟩
      show (if lxB c = true then gp false g else _) = _
      rw [if_pos (nl_blank hc)]
      exact h'
theorem spn_app_lt (p : UInt8 → Bool) : ∀ (g x : Str), spn p g < g.length → spn p (g ++ x) = spn p g
  | [], x, h => by simp at h
  | c :: g, x, h => by
    rw [List.cons_append, spn_cons, spn_cons]
    cases hc : p c with
    | true =>
      rw [spn_cons, if_pos hc] at h
      simp only [List.length_cons] at h
      rw [if_pos rfl, if_pos rfl, spn_app_lt p g x (by omega)]
    | false => rw [if_neg (by simp), if_neg (by simp)]
theorem lexF_gap : ∀ (n : Nat) (g x : Str) (k : Nat), g.length ≤ n → gp false g = some false → lexF (g ++ x) k = lexF x (k + g.length)
  | _, [], x, k, _, _ => rfl
  | 0, c :: g, x, k, hn, _ => by simp at hn
  | n + 1, c :: g, x, k, hn, h => by
    simp only [List.length_cons] at hn ⊢
    have h' : (if lxB c = true then gp false g else if c = 35 then gp true g else none) = some false := h
    rw [List.cons_append, lexF_cons]
    split at h'
    · rename_i hb
      rw [if_pos hb, lexF_gap n g x (k + 1) (by omega) h', show k + 1 + g.length = k + (g.length + 1) by omega]
    · rename_i hb
      split at h'
      · rename_i h35
        rw [if_neg hb, if_pos h35]
        rcases gp_true g false h' with ⟨_, h2⟩ | ⟨h1, h2⟩
        · cases h2
        · rw [spn_app_lt lxH g x h1, List.drop_append_of_le_length (by omega), lexF_gap n (g.drop (spn lxH g)) x _ (by rw [List.length_drop]; omega) h2, List.length_drop]
          congr 1
          omega
      · cases h'
theorem gp_all : ∀ (u g : Str), u.all lxH = true → gp true (u ++ g) = gp true g
  | [], g, _ => rfl
  | c :: u, g, h => by
    simp only [List.all_cons, Bool.and_eq_true] at h
    show gp (lxH c) (u ++ g) = _
    rw [h.1]
    exact gp_all u g h.2
theorem spn_take (p : UInt8 → Bool) : ∀ s : Str, (s.take (spn p s)).all p = true
  | [] => rfl
  | c :: s => by
    rw [spn_cons]
    cases hc : p c with
    | true => simp [hc, spn_take p s]
    | false => rfl
theorem spn_head (p : UInt8 → Bool) : ∀ (s : Str) (c : UInt8) (r : Str), s.drop (spn p s) = c :: r → p c = false
  | [], c, r, h => by simp [spn] at h
  | d :: s, c, r, h => by
    rw [spn_cons] at h
    cases hd : p d with
    | true =>
      rw [hd, if_pos rfl, List.drop_succ_cons] at h
      exact spn_head p s c r h
    | false =>
      rw [hd, if_neg (by simp), List.drop_zero] at h
      injection h with h1 h2
      rw [← h1]; exact hd
def Split (x : Str) (k : Nat) (L : List Tok) : Prop := match L with
  | [] => ∃ st, gp false x = some st
  | q :: r => ∃ (g : Str) (d : UInt8) (y : Str) (n : Nat), x = g ++ d :: y ∧ gp false g = some false ∧ lxB d = false ∧ d ≠ 35 ∧ q.2.2 = k + g.length ∧ tokF (d :: y) = some (q.1, q.2.1, n) ∧ lexF ((d :: y).drop n) (k + g.length + n) = .inr r
theorem lex_split : ∀ (n : Nat) (x : Str) (k : Nat) (L : List Tok), x.length ≤ n → lexF x k = .inr L → Split x k L
  | _, [], k, L, _, h => by
    rw [lexF_nil] at h
    injection h with h
    subst h
    exact ⟨false, rfl⟩
  | 0, c :: r, _, _, hn, _ => by simp at hn
  | n + 1, c :: r, k, L, hn, h => by
    simp only [List.length_cons] at hn
    rw [lexF_cons] at h
    split at h
    · rename_i hb
      have ih := lex_split n r (k + 1) L (by omega) h
      cases L with
      | nil =>
        obtain ⟨st, e⟩ := ih
        refine ⟨st, ?_⟩
        show (if lxB c = true then gp false r else _) = _
        rw [if_pos hb]; exact e
      | cons q L =>
        obtain ⟨g, d, y, m, e1, e2, e3, e4, e5, e6, e7⟩ := ih
        refine ⟨c :: g, d, y, m, by rw [e1]; rfl, ?_, e3, e4, by simp; omega, e6, by rw [← e7]; congr 1; simp; omega⟩
        show (if lxB c = true then gp false g else _) = _
        rw [if_pos hb]; exact e2
    · rename_i hb
      split at h
      · rename_i h35
        have ih := lex_split n (r.drop (spn lxH r)) (k + (spn lxH r + 1)) L (by rw [List.length_drop]; omega) h
        have hu := spn_take lxH r
        have hr : r = r.take (spn lxH r) ++ r.drop (spn lxH r) := (List.take_append_drop _ _).symm
        have hlen : (r.take (spn lxH r)).length = spn lxH r := by rw [List.length_take]; have := spn_le lxH r; omega
        have hgo : ∀ g : Str, gp false (c :: (r.take (spn lxH r) ++ g)) = gp true g := by
          intro g
          show (if lxB c = true then _ else if c = 35 then gp true (r.take (spn lxH r) ++ g) else none) = _
          rw [if_neg hb, if_pos h35, gp_all _ _ hu]
        have hnl : ∀ (e : UInt8) (z : Str), r.drop (spn lxH r) = e :: z → ∀ g : Str, gp true (e :: g) = gp false (e :: g) := by
          intro e z he g
          have := spn_head lxH r e z he
          show gp (lxH e) g = (if lxB e = true then gp false g else _)
          rw [this, if_pos (nl_blank this)]
        cases L with
        | nil =>
          obtain ⟨st, e⟩ := ih
          cases hz : r.drop (spn lxH r) with
          | nil =>
            refine ⟨true, ?_⟩
            rw [hr, hz, hgo]
            rfl
          | cons e' z =>
            refine ⟨st, ?_⟩
            rw [hr, hz, hgo, hnl e' z hz, ← hz]
            exact e
        | cons q L =>
          obtain ⟨g, d, y, m, e1, e2, e3, e4, e5, e6, e7⟩ := ih
          refine ⟨c :: (r.take (spn lxH r) ++ g), d, y, m, ?_, ?_, e3, e4, ?_, e6, ?_⟩
          · rw [List.cons_append, List.append_assoc, ← e1, ← hr]
          · rw [hgo]
            cases g with
            | nil =>
              have := spn_head lxH r d y e1
              rw [nl_blank this] at e3
              cases e3
            | cons e' g' => rw [hnl e' _ e1]; exact e2
          · rw [e5]; simp only [List.length_cons, List.length_append, hlen]; omega
          · rw [← e7]; congr 1; simp only [List.length_cons, List.length_append, hlen]; omega
      · rename_i h35
        cases ht : tokF (c :: r) with
        | none => rw [ht] at h; cases h
        | some p =>
          rw [ht] at h
          simp only at h
          cases hx : lexF ((c :: r).drop p.2.2) (k + p.2.2) with
          | inl e => rw [hx] at h; cases h
          | inr l =>
            rw [hx] at h
            simp only [Sum.inr.injEq] at h
            subst h
            exact ⟨[], c, r, p.2.2, rfl, rfl, by simpa using hb, h35, rfl, ht, hx⟩
theorem spn_local (p : UInt8 → Bool) (y z : Str) (hz : ∀ d r, z = d :: r → p d = false) : spn p (y.take (spn p y) ++ z) = spn p y := by
  rw [spn_app p _ z (fun c hc => List.all_eq_true.1 (spn_take p y) c hc), List.length_take, Nat.min_eq_left (spn_le p y)]
  cases z with
  | nil => rfl
  | cons d r => rw [spn_cons, if_neg (by rw [hz d r rfl]; simp)]; rfl
theorem hp_take {x p : Str} {n : Nat} (h : p.length ≤ n) (z : Str) (hn : n ≤ x.length) : hp (x.take n ++ z) p = hp x p := by
  unfold hp
  rw [List.take_append_of_le_length (by rw [List.length_take]; omega), List.take_take, Nat.min_eq_left h]
theorem bkF_local (z : Str) : ∀ (m : Nat) (x : Str), x.length ≤ m → ∀ t n, bkF x = some (t, n) → bkF (x.take n ++ z) = some (t, n)
  | _, [], _, t, n, h => by cases h
  | 0, b :: r, hm, _, _, _ => by simp at hm
  | m + 1, b :: r, hm, t, n, h => by
    have hle := bkF_le _ _ (Nat.le_refl _) t n h
    simp only [List.length_cons] at hm
    rw [bkF_cons] at h
    by_cases h1 : hp (b :: r) [92, 34, 34, 34] = true
    · rw [if_pos h1] at h
      cases hb : bkF (r.drop 3) with
      | none => rw [hb] at h; cases h
      | some q =>
        rw [hb] at h
        simp only [Option.map_some, Option.some.injEq, Prod.mk.injEq] at h
        obtain ⟨rfl, rfl⟩ := h
        have ih := bkF_local z m (r.drop 3) (by rw [List.length_drop]; omega) q.1 q.2 hb
        have h4 := hp_take (x := b :: r) (p := [92, 34, 34, 34]) (n := q.2 + 4) (by simp) z hle.1
        have e : (b :: r).take (q.2 + 4) ++ z = b :: (r.take (q.2 + 3) ++ z) := rfl
        rw [e] at h4 ⊢
        rw [bkF_cons, if_pos (by rw [h4]; exact h1)]
        have hl3 : 3 ≤ r.length := by
          have := hp_le h1
          simpa using this
        have e2 : (r.take (q.2 + 3) ++ z).drop 3 = (r.drop 3).take q.2 ++ z := by
          rw [List.drop_append_of_le_length (by rw [List.length_take]; omega), List.drop_take]
          rfl
        rw [e2, ih]
        rfl
    · rw [if_neg h1] at h
      by_cases h2 : hp (b :: r) [34, 34, 34] = true
      · rw [if_pos h2] at h
        simp only [Option.some.injEq, Prod.mk.injEq] at h
        obtain ⟨rfl, rfl⟩ := h
        have e : (b :: r).take 3 = [34, 34, 34] := of_decide_eq_true h2
        rw [e]
        show bkF (34 :: 34 :: 34 :: z) = _
        rw [bkF_cons, if_neg (by rw [hp_cons]; simp), if_pos (by rw [hp_cons, hp_cons, hp_cons, hp_nil]; decide)]
      · rw [if_neg h2] at h
        cases hb : bkF r with
        | none => rw [hb] at h; cases h
        | some q =>
          rw [hb] at h
          simp only [Option.map_some, Option.some.injEq, Prod.mk.injEq] at h
          obtain ⟨rfl, rfl⟩ := h
          have hq := bkF_le _ _ (Nat.le_refl _) q.1 q.2 hb
          have ih := bkF_local z m r (by omega) q.1 q.2 hb
          have h4 := hp_take (x := b :: r) (p := [92, 34, 34, 34]) (n := q.2 + 1) (by simp; omega) z hle.1
          have h3 := hp_take (x := b :: r) (p := [34, 34, 34]) (n := q.2 + 1) (by simp; omega) z hle.1
          have e : (b :: r).take (q.2 + 1) ++ z = b :: (r.take q.2 ++ z) := rfl
          rw [e] at h4 h3 ⊢
          rw [bkF_cons, if_neg (by rw [h4]; exact h1), if_neg (by rw [h3]; exact h2), ih]
          rfl
theorem linF_local (z : Str) : ∀ (m : Nat) (x : Str), x.length ≤ m → ∀ j, linF x = some j → linF (x.take (j + 1) ++ z) = some j
  | _, [], _, j, h => by cases h
  | 0, b :: r, hm, _, _ => by simp at hm
  | m + 1, b :: r, hm, j, h => by
    simp only [List.length_cons] at hm
    rw [linF_cons] at h
    by_cases h1 : b = 34
    · rw [if_pos h1] at h
      injection h with h
      subst h
      show linF (b :: z) = _
      rw [linF_cons, if_pos h1]
    · rw [if_neg h1] at h
      by_cases h2 : b = 92
      · rw [if_pos h2] at h
        cases r with
        | nil => cases h
        | cons d y =>
          simp only at h
          simp only [List.length_cons] at hm
          cases hq : linF y with
          | none => rw [hq] at h; cases h
          | some i =>
            rw [hq] at h
            simp only [Option.map_some, Option.some.injEq] at h
            subst h
            show linF (b :: d :: (y.take (i + 1) ++ z)) = _
            rw [linF_cons, if_neg h1, if_pos h2]
            simp only
            rw [linF_local z m y (by omega) i hq]
            rfl
      · rw [if_neg h2] at h
        cases hq : linF r with
        | none => rw [hq] at h; cases h
        | some i =>
          rw [hq] at h
          simp only [Option.map_some, Option.some.injEq] at h
          subst h
          show linF (b :: (r.take (i + 1) ++ z)) = _
          rw [linF_cons, if_neg h1, if_neg h2, linF_local z m r (by omega) i hq]
          rfl
def Sep (z : Str) : Prop := ∃ d r, z = d :: r ∧ (lxB d = true ∨ d = 35)
theorem sep_no {d : UInt8} (h : lxB d = true ∨ d = 35) : lxN d = false ∧ lxL d = false ∧ d ≠ 34 := by
  rcases h with h | rfl
  · unfold lxB at h
    simp only [List.contains_iff_mem, List.mem_cons, List.not_mem_nil, or_false] at h
    rcases h with rfl | rfl | rfl | rfl | rfl <;> decide
  · decide
def tT (c : UInt8) : Bool := decide (c = 32) || decide (c = 44) || decide (c = 10)
theorem lxN_noT {c : UInt8} (h : lxN c = true) : tT c = false := by
  cases ht : tT c with
  | false => rfl
  | true =>
    unfold tT at ht
    simp only [Bool.or_eq_true, decide_eq_true_eq] at ht
    rcases ht with (rfl | rfl) | rfl <;> revert h <;> decide
theorem lxL_noT {c : UInt8} (h : lxL c = true) : tT c = false := lxN_noT (by unfold lxN; rw [h]; rfl)
theorem lxS_no {c : UInt8} (h : lxS c = true) : tT c = false ∧ c ≠ 46 := by
  unfold lxS at h
  simp only [List.contains_iff_mem, List.mem_cons, List.not_mem_nil, or_false] at h
  rcases h with rfl | rfl | rfl | rfl | rfl | rfl | rfl | rfl | rfl | rfl | rfl | rfl | rfl <;> decide
theorem tok_local {y z : Str} {q : Tok} (h : tokF y = some q) (hz : Sep z) : tokF (y.take q.2.2 ++ z) = some q ∧ (q.1 ≠ 4 → ∀ c ∈ y.take q.2.2, tT c = false) := by
  cases y with
  | nil => cases h
  | cons c r =>
    have hle := tokF_le h
    have hy0 : (c :: r)[0]? = some c := rfl
    obtain ⟨d, z', rfl, hd⟩ := hz
    obtain ⟨nd1, nd2, nd3⟩ := sep_no hd
    have h0 : ((c :: r).take q.2.2 ++ d :: z')[0]? = some c := by
      rw [List.getElem?_append_left (by rw [List.length_take]; omega), List.getElem?_take, if_pos hle.1]
      rfl
    rw [tokF_at hy0] at h
    rw [tokF_at h0]
    generalize c :: r = y at *
    split at h
    · rename_i hc
      rw [if_pos hc]
      split at h
      · rename_i hn
        injection h with h
        subst h
        simp only
        have hs := spn_local lxN y (d :: z') (fun e r he => by injection he with he; subst he; exact nd1)
        have ht : (y.take (spn lxN y) ++ d :: z').take (spn lxN y) = y.take (spn lxN y) := by
          rw [List.take_append_of_le_length (by rw [List.length_take]; have := spn_le lxN y; omega), List.take_take, Nat.min_self]
        rw [hs, ht, if_pos hn]
        exact ⟨rfl, fun _ e he => lxN_noT (List.all_eq_true.1 (spn_take lxN y) e he)⟩
      · cases h
    · rename_i hc
      rw [if_neg hc]
      split at h
      · rename_i hl
        rw [if_pos hl]
        split at h
        · cases h
        · rename_i hn
          injection h with h
          subst h
          simp only
          have hs := spn_local lxL y (d :: z') (fun e r he => by injection he with he; subst he; exact nd2)
          have ht : (y.take (spn lxL y) ++ d :: z').take (spn lxL y) = y.take (spn lxL y) := by
            rw [List.take_append_of_le_length (by rw [List.length_take]; have := spn_le lxL y; omega), List.take_take, Nat.min_self]
          rw [hs, ht, if_neg hn]
          exact ⟨rfl, fun _ e he => lxL_noT (List.all_eq_true.1 (spn_take lxL y) e he)⟩
      · rename_i hl
        rw [if_neg hl]
        split at h
        · rename_i h3
          cases hb : blockT y with
          | none => rw [hb] at h; cases h
          | some p =>
            rw [hb] at h
            simp only [Option.map_some, Option.some.injEq] at h
            subst h
            simp only at hle ⊢
            unfold blockT at hb
            cases hk : bkF (y.drop 3) with
            | none => rw [hk] at hb; cases hb
            | some w =>
              rw [hk] at hb
              simp only at hb
              have hw := bkF_le _ _ (Nat.le_refl _) w.1 w.2 hk
              split at hb
              · rename_i hr
                injection hb with hb
                subst hb
                simp only at hle ⊢
                have hl3 := hp_le h3
                simp only [List.length_cons, List.length_nil] at hl3
                have hloc := bkF_local (d :: z') _ _ (Nat.le_refl _) w.1 w.2 hk
                have ed : (y.take (w.2 + 3) ++ d :: z').drop 3 = (y.drop 3).take w.2 ++ d :: z' := by
                  rw [List.drop_append_of_le_length (by rw [List.length_take]; omega), List.drop_take]
                  rfl
                have h3' := hp_take (x := y) (p := [34, 34, 34]) (n := w.2 + 3) (by simp) (d :: z') hle.2.1
                rw [if_pos (by rw [h3']; exact h3)]
                refine ⟨?_, fun hh => absurd rfl hh⟩
                unfold blockT
                rw [ed, hloc]
                simp only
                rw [if_pos hr]
                rfl
              · cases hb
        · rename_i h3
          split at h
          · rename_i h34
            cases hb : lineT y with
            | none => rw [hb] at h; cases h
            | some p =>
              rw [hb] at h
              simp only [Option.map_some, Option.some.injEq] at h
              subst h
              simp only at hle ⊢
              have hb0 := hb
              unfold lineT at hb
              cases hk : linF (y.drop 1) with
              | none => rw [hk] at hb; cases hb
              | some j =>
                rw [hk] at hb
                simp only at hb
                have hw := linF_lt _ _ (Nat.le_refl _) j hk
                split at hb
                · cases hb
                · rename_i hcr
                  cases hu : uqF (y.take (j + 2)) with
                  | none => rw [hu] at hb; cases hb
                  | some t =>
                    rw [hu] at hb
                    simp only [Option.map_some, Option.some.injEq] at hb
                    subst hb
                    simp only at hle ⊢
                    have hloc := linF_local (d :: z') _ _ (Nat.le_refl _) j hk
                    have ed : (y.take (j + 2) ++ d :: z').drop 1 = (y.drop 1).take (j + 1) ++ d :: z' := by
                      rw [List.drop_append_of_le_length (by rw [List.length_take]; omega), List.drop_take]
                      rfl
                    have e1 : (y.take (j + 2) ++ d :: z').take (j + 1) = y.take (j + 1) := by
                      rw [List.take_append_of_le_length (by rw [List.length_take]; omega), List.take_take, Nat.min_eq_left (by omega)]
                    have e2 : (y.take (j + 2) ++ d :: z').take (j + 2) = y.take (j + 2) := by
                      rw [List.take_append_of_le_length (by rw [List.length_take]; omega), List.take_take, Nat.min_self]
                    have h3' : ¬ hp (y.take (j + 2) ++ d :: z') [34, 34, 34] = true := by
                      by_cases hj : j = 0
                      · subst hj
                        intro hh
                        have e : (y.take 2 ++ d :: z').take 3 = [34, 34, 34] := of_decide_eq_true hh
                        have hl2 : (y.take 2).length = 2 := by rw [List.length_take]; omega
                        have : (y.take 2 ++ d :: z')[2]? = some d := by
                          rw [List.getElem?_append_right (by omega), hl2]
                          rfl
                        have h2 : ((y.take 2 ++ d :: z').take 3)[2]? = some d := by rw [List.getElem?_take, if_pos (by omega)]; exact this
                        rw [e] at h2
                        injection h2 with h2
                        exact nd3 h2.symm
                      · rw [hp_take (x := y) (p := [34, 34, 34]) (n := j + 2) (by simp; omega) (d :: z') hle.2.1]
                        exact h3
                    rw [if_neg h3', if_pos h34]
                    refine ⟨?_, fun hh => absurd rfl hh⟩
                    unfold lineT
                    rw [ed, hloc]
                    simp only
                    rw [e1, e2, if_neg hcr, hu]
                    rfl
          · rename_i h34
            have hne3 : ¬ hp (y.take q.2.2 ++ d :: z') [34, 34, 34] = true := by
              intro hh
              have e : (y.take q.2.2 ++ d :: z').take 3 = [34, 34, 34] := of_decide_eq_true hh
              have h2 : ((y.take q.2.2 ++ d :: z').take 3)[0]? = some c := by rw [List.getElem?_take, if_pos (by omega)]; exact h0
              rw [e] at h2
              injection h2 with h2
              exact h34 h2.symm
            rw [if_neg hne3, if_neg h34]
            split at h
            · rename_i h6
              injection h with h
              subst h
              simp only at hle ⊢
              have h6' := hp_take (x := y) (p := [46, 46, 46]) (n := 3) (by simp) (d :: z') hle.2.1
              rw [if_pos (by rw [h6']; exact h6)]
              have e : y.take 3 = [46, 46, 46] := of_decide_eq_true h6
              refine ⟨rfl, fun _ x hx => ?_⟩
              rw [e] at hx
              simp only [List.mem_cons, List.not_mem_nil, or_false, or_self] at hx
              rw [hx]; decide
            · rename_i h6
              split at h
              · rename_i hs
                injection h with h
                subst h
                simp only at hle ⊢
                obtain ⟨hs1, hs2⟩ := lxS_no hs
                have h6' : ¬ hp (y.take 1 ++ d :: z') [46, 46, 46] = true := by
                  intro hh
                  have e : (y.take 1 ++ d :: z').take 3 = [46, 46, 46] := of_decide_eq_true hh
                  have h2 : ((y.take 1 ++ d :: z').take 3)[0]? = some c := by rw [List.getElem?_take, if_pos (by omega)]; exact h0
                  rw [e] at h2
                  injection h2 with h2
                  exact hs2 h2.symm
                rw [if_neg h6', if_pos hs]
                refine ⟨rfl, fun _ x hx => ?_⟩
                have e1 : y.take 1 = [c] := by
                  cases y with
                  | nil => cases hy0
                  | cons a b => injection hy0 with hy0; rw [hy0]; rfl
                rw [e1] at hx
                have : x = c := by simpa using hx
                rw [this]; exact hs1
              · cases h
end T
set_option linter.unusedVariables false
set_option linter.unusedSimpArgs false
set_option maxRecDepth 10000
namespace T
open Go Go.Aes Go.Proofs
def trimT (s : Str) : Str := (s.reverse.dropWhile tT).reverse
theorem trimT_snoc (l : Str) (x : UInt8) : trimT (l ++ [x]) = if tT x = true then trimT l else l ++ [x] := by
  unfold trimT
  rw [List.reverse_append]
  show ((x :: l.reverse).dropWhile tT).reverse = _
  rw [List.dropWhile_cons]
  cases tT x <;> simp
theorem trimT_len (s : Str) : (trimT s).length ≤ s.length := by
  unfold trimT
  have : ∀ l : Str, (l.dropWhile tT).length ≤ l.length := by
    intro l
    induction l with
    | nil => simp
    | cons a l ih =>
      rw [List.dropWhile_cons]
      cases tT a <;> simp <;> omega
  have := this s.reverse
  simpa using this
theorem trimT_tok (w : Str) (hw : ∀ c ∈ w, tT c = false) : ∀ (n : Nat) (g : Str), g.length = n → ∃ g3 u, trimT (w ++ g) = w ++ g3 ∧ g = g3 ++ u
  | 0, g, h => by
    obtain rfl := List.eq_nil_of_length_eq_zero h
    refine ⟨[], [], ?_, rfl⟩
    rw [List.append_nil]
    rcases List.eq_nil_or_concat w with rfl | ⟨l, x, rfl⟩
    · rfl
    · rw [List.concat_eq_append, trimT_snoc, if_neg (by rw [hw x (by simp)]; simp)]
  | n + 1, g, h => by
    rcases List.eq_nil_or_concat g with rfl | ⟨l, x, rfl⟩
    · cases h
    · rw [List.concat_eq_append] at h ⊢
      rw [← List.append_assoc, trimT_snoc]
      split
      · obtain ⟨g3, u, e1, e2⟩ := trimT_tok w hw n l (by simpa using h)
        exact ⟨g3, u ++ [x], e1, by rw [e2]; simp⟩
      · exact ⟨l ++ [x], [], by simp, by simp⟩
def pcT (kd : Nat) (s : Str) : Str := if kd = 4 then s else trimT s
theorem pcT_len (kd : Nat) (s : Str) : (pcT kd s).length ≤ s.length := by
  unfold pcT
  split
  · exact Nat.le_refl _
  · exact trimT_len s
def toOf (s : Str) : List Tok → Nat
  | [] => s.length
  | q :: _ => q.2.2
def pcOf (s : Str) (q : Tok) (r : List Tok) : Str := pcT q.1 ((s.take (toOf s r)).drop q.2.2)
def RR (s b : Str) : List Tok → Str
  | [] => []
  | q :: r => pcOf s q r ++ [10] ++ b ++ RR s b r
def posOf (s b : Str) : Nat → List Tok → List Nat
  | _, [] => []
  | k, q :: r => k :: posOf s b (k + (pcOf s q r).length + 1 + b.length) r
def reAt (l : List Tok) (ps : List Nat) : List Tok := List.zipWith (fun q p => (q.1, q.2.1, p)) l ps
theorem pieces (b : Str) (hb : gp false b = some false) (s : Str) : ∀ (L : List Tok) (pre x : Str) (k : Nat), s = pre ++ x → pre.length = k → lexF x k = .inr L → ∀ k', lexF (RR s b L) k' = .inr (reAt L (posOf s b k' L))
  | [], pre, x, k, _, _, _, k' => rfl
  | q :: r, pre, x, k, hs, hk, h, k' => by
    obtain ⟨g, d, y, n, e1, e2, e3, e4, e5, e6, e7⟩ := lex_split x.length x k (q :: r) (Nat.le_refl _) h
    have hle := tokF_le e6
    simp only at hle
    have hdy : (d :: y) ≠ [] := by simp
    generalize hY : d :: y = Y at *
    have hsp := lex_split _ _ _ r (Nat.le_refl _) e7
    have hs2 : s = (pre ++ g ++ Y.take n) ++ Y.drop n := by rw [hs, e1]; simp
    have hYt : (Y.take n).length = n := by rw [List.length_take]; omega
    have ih := pieces b hb s r (pre ++ g ++ Y.take n) (Y.drop n) (k + g.length + n) hs2 (by simp only [List.length_append, hYt]; omega) e7
    have hdrop : s.drop q.2.2 = Y := by
      rw [hs, e1, e5, ← List.append_assoc]
      have : (pre ++ g).length = k + g.length := by rw [List.length_append, hk]
      rw [← this, List.drop_left]
    obtain ⟨g2, st, hg2, hp0⟩ : ∃ g2 st, gp false g2 = some st ∧ (s.take (toOf s r)).drop q.2.2 = Y.take n ++ g2 := by
      cases r with
      | nil =>
        obtain ⟨st, hst⟩ := hsp
        refine ⟨Y.drop n, st, hst, ?_⟩
        show (s.take s.length).drop q.2.2 = _
        rw [List.take_length, hdrop, List.take_append_drop]
      | cons q2 r2 =>
        obtain ⟨g2, d2, y2, n2, f1, f2, f3, f4, f5, f6, f7⟩ := hsp
        refine ⟨g2, false, f2, ?_⟩
        show (s.take q2.2.2).drop q.2.2 = _
        rw [List.drop_take, hdrop, f5, e5, show k + g.length + n + g2.length - (k + g.length) = n + g2.length by omega]
        conv => lhs; rw [← List.take_append_drop n Y, f1]
        rw [← List.append_assoc, show n + g2.length = (Y.take n ++ g2).length by rw [List.length_append, hYt], List.take_left]
    obtain ⟨g3, st3, hg3, hp⟩ : ∃ g3 st3, gp false g3 = some st3 ∧ pcOf s q r = Y.take n ++ g3 := by
      unfold pcOf
      rw [hp0]
      unfold pcT
      split
      · exact ⟨g2, st, hg2, rfl⟩
      · rename_i h4
        have hz : Sep (10 :: []) := ⟨10, [], rfl, .inl (by decide)⟩
        have hno := (tok_local e6 hz).2 h4
        simp only at hno
        obtain ⟨g3, u, t1, t2⟩ := trimT_tok (Y.take n) hno g2.length g2 rfl
        rw [t2] at hg2
        obtain ⟨st3, hst3⟩ := gp_pre hg2
        exact ⟨g3, st3, hst3, t1⟩
    have hgap : gp false (g3 ++ [10] ++ b) = some false := by
      rw [List.append_assoc, gp_app, hg3]
      show gp st3 (10 :: b) = _
      cases st3 with
      | true => show gp (lxH 10) b = _; exact hb
      | false => show (if lxB 10 = true then gp false b else _) = _; rw [if_pos (by decide)]; exact hb
    have hzs : Sep (g3 ++ [10] ++ b ++ RR s b r) := by
      cases g3 with
      | nil => exact ⟨10, b ++ RR s b r, rfl, .inl (by decide)⟩
      | cons c g3 =>
        refine ⟨c, g3 ++ [10] ++ b ++ RR s b r, rfl, ?_⟩
        have h' : (if lxB c = true then gp false g3 else if c = 35 then gp true g3 else none) = some st3 := hg3
        split at h'
        · rename_i hc; exact .inl hc
        · split at h'
          · rename_i hc; exact .inr hc
          · cases h'
    obtain ⟨hloc, _⟩ := tok_local e6 hzs
    simp only at hloc
    have hRR : RR s b (q :: r) = Y.take n ++ (g3 ++ [10] ++ b ++ RR s b r) := by
      simp only [RR, hp, List.append_assoc]
    rw [hRR]
    obtain ⟨y3, hY3⟩ : ∃ y3, Y.take n ++ (g3 ++ [10] ++ b ++ RR s b r) = d :: y3 := by
      rw [← hY]
      obtain ⟨m, rfl⟩ : ∃ m, n = m + 1 := ⟨n - 1, by omega⟩
      exact ⟨_, rfl⟩
    have hd3 : (d :: y3).drop n = g3 ++ [10] ++ b ++ RR s b r := by
      rw [← hY3, List.drop_append_of_le_length (by omega), List.drop_of_length_le (by omega), List.nil_append]
    rw [hY3] at hloc ⊢
    rw [lexF_cons, if_neg (by rw [e3]; simp), if_neg e4, hloc]
    simp only
    rw [hd3, lexF_gap _ _ _ _ (Nat.le_refl _) hgap, ih]
    have hpl : (pcOf s q r).length = n + g3.length := by rw [hp, List.length_append, hYt]
    show Sum.inr ((q.1, q.2.1, k') :: reAt r _) = Sum.inr ((q.1, q.2.1, k') :: reAt r (posOf s b (k' + (pcOf s q r).length + 1 + b.length) r))
    rw [hpl]
    simp only [List.length_append, List.length_cons, List.length_nil]
    rw [show k' + n + (g3.length + (0 + 1) + b.length) = k' + (n + g3.length) + 1 + b.length by omega]
theorem at_lt : ∀ (L : List Tok) (x : Str) (k : Nat), lexF x k = .inr L → ∀ q ∈ L, k ≤ q.2.2 ∧ q.2.2 < k + x.length
  | [], _, _, _, q, h => by cases h
  | q :: r, x, k, h, p, hp => by
    obtain ⟨g, d, y, n, e1, e2, e3, e4, e5, e6, e7⟩ := lex_split x.length x k (q :: r) (Nat.le_refl _) h
    have hle := tokF_le e6
    simp only at hle
    have hxl : x.length = g.length + (d :: y).length := by rw [e1, List.length_append]
    rcases List.mem_cons.1 hp with rfl | hp
    · omega
    · have := at_lt r _ _ e7 p hp
      rw [List.length_drop] at this
      omega
theorem at_up : ∀ (L : List Tok) (x : Str) (k : Nat), lexF x k = .inr L → ∀ (i : Nat) (q q2 : Tok), L[i]? = some q → L[i + 1]? = some q2 → q.2.2 ≤ q2.2.2
  | [], _, _, _, i, q, q2, h, _ => by simp at h
  | a :: r, x, k, h, i, q, q2, hi, hi2 => by
    obtain ⟨g, d, y, n, e1, e2, e3, e4, e5, e6, e7⟩ := lex_split x.length x k (a :: r) (Nat.le_refl _) h
    cases i with
    | zero =>
      have ha : a = q := by simpa using hi
      subst ha
      have hm : q2 ∈ r := List.mem_of_getElem? (by simpa using hi2)
      have := at_lt r _ _ e7 q2 hm
      omega
    | succ i => exact at_up r _ _ e7 i q q2 (by simpa using hi) (by simpa using hi2)
end T
