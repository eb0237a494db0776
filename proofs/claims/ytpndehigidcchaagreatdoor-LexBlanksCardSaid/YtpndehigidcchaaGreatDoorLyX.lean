import Derived.Test.YtpndehigidcchaaGreatDoorLxY
import Derived.Test.YtpndehigidcchaaGreatDoorRvX
import Derived.Test.YtpndehigidcchaaGreatDoorRwX
import Derived.Test.YtpndehigidcchaaGreatDoorRyZ
set_option linter.all false
set_option linter.unusedVariables false
set_option linter.unusedSimpArgs false
set_option maxRecDepth 10000
namespace T
open Go Go.Aes Go.Proofs
theorem hexN_ge : ∀ {l : Str} {v w : Nat}, hexN l v = some w → ∀ c ∈ l, 32 ≤ c.toNat
  | [], _, _, _, c, h => by cases h
  | d :: l, v, w, h, c, hc => by
    simp only [hexN] at h
    cases hd : hexV d with
    | none => rw [hd] at h; cases h
    | some x =>
      rw [hd] at h
      rcases List.mem_cons.1 hc with rfl | hc
      · unfold hexV at hd
        split at hd
        · omega
        · split at hd
          · omega
          · split at hd
            · omega
            · cases hd
      · exact hexN_ge h c hc
theorem fourF_ge {s : Str} {v : Nat} (h : fourF s = some v) : ∀ c ∈ s.take 4, 32 ≤ c.toNat := by
  unfold fourF at h
  split at h
  · cases h
  · exact hexN_ge h
theorem pointF_ge {s : Str} {q : Nat × Nat} (h : pointF s = some q) : ∀ c ∈ s.take q.2, 32 ≤ c.toNat := by
  unfold pointF at h
  cases h4 : fourF s with
  | none => rw [h4] at h; cases h
  | some v =>
    rw [h4] at h
    simp only at h
    have g4 := fourF_ge h4
    split at h
    · injection h with h
      subst h
      exact g4
    · split at h
      · cases h
      · unfold halfF at h
        by_cases hp2 : hp (s.drop 4) [92, 117] = true
        · rw [if_pos hp2] at h
          cases h5 : fourF ((s.drop 4).drop 2) with
          | none => rw [h5] at h; cases h
          | some w =>
            rw [h5] at h
            simp only at h
            split at h
            · cases h
            · injection h with h
              subst h
              have g5 := fourF_ge h5
              have e2 : (s.drop 4).take 2 = [92, 117] := of_decide_eq_true hp2
              intro c hc
              have e : s.take 10 = s.take 4 ++ ((s.drop 4).take 2 ++ ((s.drop 4).drop 2).take 4) := by
                rw [← List.take_add, ← List.take_add]
              simp only at hc
              rw [e, e2] at hc
              rcases List.mem_append.1 hc with hc | hc
              · exact g4 c hc
              · rcases List.mem_append.1 hc with hc | hc
                · simp only [List.mem_cons, List.not_mem_nil, or_false] at hc
                  rcases hc with rfl | rfl <;> decide
                · exact g5 c hc
        · rw [if_neg hp2] at h; cases h
theorem escd_ge {c : UInt8} (h : ¬ Lib.indexByte escd c < 0) : 32 ≤ c.toNat := by
  have := (ib_ge escd c).2
  have hc : escd.contains c = true := (ib_ge escd c).2.1 (by omega)
  have : ∀ d ∈ escd, 32 ≤ d.toNat := by decide
  exact this c (by simpa using hc)
theorem unqF_ge : ∀ (n : Nat) (m : Str), m.length ≤ n → ∀ t, unqF m = some t → ∀ c ∈ m, 32 ≤ c.toNat
  | _, [], _, _, _, c, h => by cases h
  | 0, b :: r, hn, _, _, _, _ => by simp at hn
  | n + 1, b :: r, hn, t, h, c, hc => by
    simp only [List.length_cons] at hn
    rw [unqF_cons] at h
    split at h
    · cases h
    · rename_i hb
      have hb32 : 32 ≤ b.toNat := by
        rcases Nat.lt_or_ge b.toNat 32 with h | h
        · exact absurd (.inl h) hb
        · exact h
      split at h
      · cases hu : unqF r with
        | none => rw [hu] at h; cases h
        | some u =>
          rcases List.mem_cons.1 hc with rfl | hc
          · exact hb32
          · exact unqF_ge n r (by omega) u hu c hc
      · cases r with
        | nil => cases h
        | cons d y =>
          simp only at h
          simp only [List.length_cons] at hn
          split at h
          · rename_i hd
            cases hp : pointF y with
            | none => rw [hp] at h; cases h
            | some q =>
              rw [hp] at h
              simp only at h
              cases hu : unqF (y.drop q.2) with
              | none => rw [hu] at h; cases h
              | some u =>
                have ih := unqF_ge n (y.drop q.2) (by rw [List.length_drop]; omega) u hu
                rcases List.mem_cons.1 hc with rfl | hc
                · exact hb32
                · rcases List.mem_cons.1 hc with rfl | hc
                  · rw [hd]; decide
                  · rw [← List.take_append_drop q.2 y] at hc
                    rcases List.mem_append.1 hc with hc | hc
                    · exact pointF_ge hp c hc
                    · exact ih c hc
          · split at h
            · cases h
            · rename_i hd
              cases hu : unqF y with
              | none => rw [hu] at h; cases h
              | some u =>
                rcases List.mem_cons.1 hc with rfl | hc
                · exact hb32
                · rcases List.mem_cons.1 hc with rfl | hc
                  · exact escd_ge hd
                  · exact unqF_ge n y (by omega) u hu c hc
theorem uq_nocr {x t : Str} (h : uqF x = some t) : crlf x = false := by
  unfold uqF at h
  split at h
  · cases h
  · rename_i hx
    obtain ⟨a, m, z, rfl⟩ := two_ends x (fun h => hx (.inl h))
    have ha : a = 34 := by
      by_cases ha : a = 34
      · exact ha
      · exact absurd (.inr (.inl (by simpa using ha))) hx
    have hz : z = 34 := by
      by_cases hz : z = 34
      · exact hz
      · exact absurd (.inr (.inr (.inl (by rw [← List.cons_append, List.getLast?_concat]; simpa using hz)))) hx
    have hm : unqF m = some t := by simpa using h
    have hg := unqF_ge _ m (Nat.le_refl _) t hm
    unfold crlf
    rw [List.any_eq_false]
    intro c hc
    have h32 : 32 ≤ c.toNat := by
      rcases List.mem_cons.1 hc with rfl | hc
      · rw [ha]; decide
      · rcases List.mem_append.1 hc with hc | hc
        · exact hg c hc
        · have : c = z := by simpa using hc
          rw [this, hz]; decide
    have h1 : c ≠ 10 := by rintro rfl; exact absurd h32 (by decide)
    have h2 : c ≠ 13 := by rintro rfl; exact absurd h32 (by decide)
    simp [h1, h2]
theorem crlf_take {s : Str} {a b : Nat} (h : a ≤ b) (hc : crlf (s.take a) = true) : crlf (s.take b) = true := by
  unfold crlf at hc ⊢
  rw [List.any_eq_true] at hc ⊢
  obtain ⟨x, hx, hq⟩ := hc
  refine ⟨x, ?_, hq⟩
  have e : s.take a = (s.take b).take a := by rw [List.take_take, Nat.min_eq_left h]
  rw [e] at hx
  exact List.mem_of_mem_take hx
theorem lineT_eq (s : Str) : lineT s = match linF (s.drop 1) with
    | none => none
    | some n => (uqF (s.take (n + 2))).map fun t => (t, n + 2) := by
  unfold lineT
  cases linF (s.drop 1) with
  | none => rfl
  | some n =>
    simp only
    split
    · rename_i hc
      cases hu : uqF (s.take (n + 2)) with
      | none => rfl
      | some t =>
        have h1 := uq_nocr hu
        rw [crlf_take (by omega) hc] at h1
        cases h1
    · rfl
end T
set_option linter.unusedVariables false
set_option linter.unusedSimpArgs false
set_option maxRecDepth 10000
namespace T
open Go Go.Aes Go.Proofs
theorem eq_hp (s p : Str) (i : Nat) (k : AV → Prop) : qEql X 9 (.str ((s.take (i + p.length)).drop i)) (.str p) k = k (.bool (hp (s.drop i) p)) := by
  rw [qEql_str]
  have : (s.take (i + p.length)).drop i = (s.drop i).take p.length := by rw [List.drop_take]; congr 1; omega
  rw [this]; rfl
def RdOk (i : Nat) (o : Option (Str × Nat)) (v : AV) : Prop := match o with
  | some q => v = .tup [.str q.1, .int .i64 ((i + q.2 : Nat) : Int), .bool true]
  | none => ∃ (a : Str) (e : Int), v = .tup [.str a, .int .i64 e, .bool false]
def bkq (s : Str) (i : Nat) : Option (Str × Nat) := match bkF (s.drop i) with
  | none => none
  | some q => if rawB q.1 then some (blockF q.1, q.2) else none
set_option maxHeartbeats 2000000 in
theorem rblock_walk (s : Str) (hl : s.length < 800000) (i0 : Nat) (hi0 : i0 ≤ s.length) : c41 EP4 [.str s, .int .i64 (i0 : Int)] H0 (fun v _ => v.kill.free = true ∧ RdOk i0 (bkq s i0) v.kill) := by
  simp -implicitDefEqProofs only [c41, r41_0, r41_1, opn_z, opn_s, qFn_eq, qBl_eq]
  refine loop_inv (fun m fr H' => ∃ (i : Nat) (t : Str) (x11 x21 x41 x59 : AV), m = s.length - i ∧ i0 ≤ i ∧ i ≤ s.length ∧ t.length ≤ i ∧ t.any ctl = false ∧
    fr = [.str s, .int .i64 (i : Int), .str [], .int .i64 0, .bool false, .str t, x11, x21, x41, x59] ∧ H' = H0 ∧
    bkF (s.drop i0) = (bkF (s.drop i)).map (fun q => (t ++ q.1, q.2 + (i - i0)))) ?_ (m := s.length - i0) ?_
  case refine_2 => exact ⟨i0, [], _, _, _, _, rfl, by omega, hi0, by simp, rfl, rfl, rfl, by simp⟩
  rintro m fr H' k ⟨i, t, x11, x21, x41, x59, rfl, hi, hil, htl, hct, rfl, rfl, hn⟩ hk
  by_cases h : i < s.length
  · have c1 : (i : Int) < (s.length : Int) := by omega
    have hc : s[i]? = some s[i] := List.getElem?_eq_getElem h
    have hx := fun k => qIx_at s i s[i] hc k
    have hd : s.drop i = s[i] :: s.drop (i + 1) := List.drop_eq_getElem_cons h
    have hdl : (s.drop i).length = s.length - i := List.length_drop
    have hbk := bkF_cons s[i] (s.drop (i + 1))
    rw [← hd] at hbk
    have ws : IntKind.i64.wrap ((s.length : Int) - (i : Int)) = ((s.length - i : Nat) : Int) := by rw [i64_in' (by omega)]; omega
    have w3 : IntKind.i64.wrap ((i : Int) + 3) = ((i + 3 : Nat) : Int) := by rw [i64_in' (by omega)]; omega
    have w4 : IntKind.i64.wrap ((i : Int) + 4) = ((i + 4 : Nat) : Int) := by rw [i64_in' (by omega)]; omega
    have w1 : IntKind.i64.wrap ((i : Int) + 1) = ((i + 1 : Nat) : Int) := by rw [i64_in' (by omega)]; omega
    have q3 : ∀ k : AV → Prop, qEql X 9 (.str ((s.take (i + 3)).drop i)) (.str [34, 34, 34]) k = k (.bool (hp (s.drop i) [34, 34, 34])) := fun k => eq_hp s [34, 34, 34] i k
    have q4 : ∀ k : AV → Prop, qEql X 9 (.str ((s.take (i + 4)).drop i)) (.str [92, 34, 34, 34]) k = k (.bool (hp (s.drop i) [92, 34, 34, 34])) := fun k => eq_hp s [92, 34, 34, 34] i k
    cases h3 : hp (s.drop i) [34, 34, 34] with
    | true =>
      have hle := hp_le h3
      rw [hdl] at hle
      simp only [List.length_cons, List.length_nil] at hle
      have b1 : ((s.length - i : Nat) : Int) ≥ 3 := by omega
      rw [h3] at q3
      have h4 : hp (s.drop i) [92, 34, 34, 34] = false := by
        rw [hd] at h3 ⊢
        rw [hp_cons] at h3 ⊢
        have : s[i] = 34 := by
          by_cases e : s[i] = 34
          · exact e
          · rw [decide_eq_false e] at h3; cases h3
        rw [this]
        rfl
      rw [if_neg (by rw [h4]; simp), if_pos h3] at hbk
      have sl3 := fun k => slcS_mid s i (i + 3) (by omega) (by omega) k
      have hT : bkq s i0 = if rawB t then some (blockF t, 3 + (i - i0)) else none := by
        unfold bkq
        rw [hn, hbk]
        simp only [Option.map_some, List.append_nil]
      have hr : rawB t = Lib.validD t := by unfold rawB; rw [hct]; rfl
      rw [hT, hr]
      have e56 := fun H => up4 (ep39 t (by omega) H)
      have e57 := fun H => up4 (ep35 t (by omega) H)
      cases hv : Lib.validD t with
      | true =>
        rw [hv] at e57
        simp -implicitDefEqProofs only [l41_8, r41_2, r41_4, r41_5, opn_z, opn_s, sel_z, sel_s, qCd_eq, qIf_true, qBl_eq, qRes_val, qPick_true, qG_tt, qLss_int, qGeq_int, qAdd_int, qSub_int, qLenS_str, AV.kill, AV.kills, c1, decide_true, ws, b1, w3, sl3, q3, e56, e57]
        refine ⟨rfl, ?_⟩
        show _ = AV.tup [.str (blockF t), .int .i64 ((i0 + (3 + (i - i0)) : Nat) : Int), .bool true]
        rw [show i0 + (3 + (i - i0)) = i + 3 by omega]
      | false =>
        rw [hv] at e57
        simp -implicitDefEqProofs only [l41_8, r41_2, r41_4, r41_5, opn_z, opn_s, sel_z, sel_s, qCd_eq, qIf_true, qBl_eq, qRes_val, qPick_true, qG_tt, qLss_int, qGeq_int, qAdd_int, qSub_int, qLenS_str, AV.kill, AV.kills, c1, decide_true, ws, b1, w3, sl3, q3, e56, e57]
        exact ⟨rfl, _, _, rfl⟩
    | false =>
      rw [h3] at q3
      cases h4 : hp (s.drop i) [92, 34, 34, 34] with
      | true =>
        have hle := hp_le h4
        rw [hdl] at hle
        simp only [List.length_cons, List.length_nil] at hle
        have b3 : ((s.length - i : Nat) : Int) ≥ 3 := by omega
        have b4 : ((s.length - i : Nat) : Int) ≥ 4 := by omega
        rw [h4] at q4
        rw [if_pos h4] at hbk
        have sl3 := fun k => slcS_mid s i (i + 3) (by omega) (by omega) k
        have sl4 := fun k => slcS_mid s i (i + 4) (by omega) (by omega) k
        have qa := fun k => qAdd_str (R := Prop) X 9 t [34, 34, 34] (by unfold most; simp; omega) k
        simp -implicitDefEqProofs only [l41_8, r41_2, r41_4, r41_6, r41_7, opn_z, opn_s, sel_z, sel_s, qCd_eq, qIf_true, qIf_false, qBl_eq, qPick_true, qG_tt, qLss_int, qGeq_int, qAdd_int, qSub_int, qLenS_str, AV.kill, AV.kills, c1, decide_true, ws, b3, b4, w3, w4, sl3, q3, sl4, q4, qa]
        refine hk (s.length - (i + 4)) _ _ (by omega) ⟨i + 4, t ++ [34, 34, 34], _, _, _, _, rfl, by omega, by omega, by simp; omega, by rw [List.any_append, hct]; rfl, rfl, rfl, ?_⟩
        rw [hn, hbk, List.drop_drop, show i + 1 + 3 = i + 4 by omega, Option.map_map]
        congr 1
        funext q
        simp only [Function.comp, List.append_assoc, List.cons_append, List.nil_append, Prod.mk.injEq, true_and]
        omega
      | false =>
        rw [h4] at q4
        rw [if_neg (by rw [h4]; simp), if_neg (by rw [h3]; simp)] at hbk
        have rest : ∀ (x11 x21 x41 x59 : AV), r41_8 (qCd (sel 9) (fun _ => (r41_9 (fun fr H => (AV.tup [(sel 2 fr), (sel 3 fr), (sel 4 fr)]).kill.free = true ∧ RdOk i0 (bkq s i0) (AV.tup [(sel 2 fr), (sel 3 fr), (sel 4 fr)]).kill))) (fun k7 => (r41_3 k7)) k) [.str s, .int .i64 (i : Int), .str [], .int .i64 0, .bool false, .str t, x11, x21, x41, x59] H0 := by
          intro x11 x21 x41 x59
          have h9 : (((s[i].toNat : Nat) : Int) == 9) = decide (s[i] = 9) := u8_ne _ 9 (by decide)
          have h10 : (((s[i].toNat : Nat) : Int) == 10) = decide (s[i] = 10) := u8_ne _ 10 (by decide)
          have h13 : (((s[i].toNat : Nat) : Int) == 13) = decide (s[i] = 13) := u8_ne _ 13 (by decide)
          have go : ctl s[i] = false → ∀ (x11 x21 x41 x59 : AV), r41_3 k [.str s, .int .i64 (i : Int), .str [], .int .i64 0, .bool false, .str t, x11, x21, x41, x59] H0 := by
            intro hcc x11 x21 x41 x59
            have sl1 := fun k => slcS_mid s i (i + 1) (by omega) (by omega) k
            have e1 : (s.take (i + 1)).drop i = [s[i]] := by
              rw [List.drop_take, hd, show i + 1 - i = 1 by omega]; rfl
            rw [e1] at sl1
            have qa := fun k => qAdd_str (R := Prop) X 9 t [s[i]] (by unfold most; simp; omega) k
            simp -implicitDefEqProofs only [r41_3, opn_z, opn_s, qAdd_int, w1, sl1, qa]
            refine hk (s.length - (i + 1)) _ _ (by omega) ⟨i + 1, t ++ [s[i]], _, _, _, _, rfl, by omega, by omega, by simp; omega, by rw [List.any_append, hct]; simp [hcc], rfl, rfl, ?_⟩
            rw [hn, hbk, Option.map_map]
            congr 1
            funext q
            simp only [Function.comp, List.append_assoc, List.cons_append, List.nil_append, Prod.mk.injEq, true_and]
            omega
          by_cases k1 : s[i].toNat < 32
          · have cc : (s[i].toNat : Int) < 32 := by omega
            by_cases k2 : s[i] = 9
            · rw [decide_eq_true k2] at h9
              have hcc : ctl s[i] = false := by rw [k2]; decide
              simp -implicitDefEqProofs only [r41_8, opn_z, opn_s, sel_z, sel_s, qCd_eq, qIf_false, qPick_true, qPick_false, qG_tt, qG_ft, qLss_int, qNeq_int, hx, cc, decide_true, h9, Bool.not_true]
              (first | exact go hcc _ _ _ _ | (apply go hcc <;> exact Aes.undef))
            · rw [decide_eq_false k2] at h9
              by_cases k3 : s[i] = 10
              · rw [decide_eq_true k3] at h10
                have hcc : ctl s[i] = false := by rw [k3]; decide
                simp -implicitDefEqProofs only [r41_8, opn_z, opn_s, sel_z, sel_s, qCd_eq, qIf_false, qPick_true, qPick_false, qG_tt, qG_ft, qLss_int, qNeq_int, hx, cc, decide_true, h9, h10, Bool.not_true, Bool.not_false]
                (first | exact go hcc _ _ _ _ | (apply go hcc <;> exact Aes.undef))
              · rw [decide_eq_false k3] at h10
                by_cases k4 : s[i] = 13
                · rw [decide_eq_true k4] at h13
                  have hcc : ctl s[i] = false := by rw [k4]; decide
                  simp -implicitDefEqProofs only [r41_8, opn_z, opn_s, sel_z, sel_s, qCd_eq, qIf_false, qPick_true, qG_tt, qLss_int, qNeq_int, hx, cc, decide_true, h9, h10, h13, Bool.not_true, Bool.not_false]
                  (first | exact go hcc _ _ _ _ | (apply go hcc <;> exact Aes.undef))
                · rw [decide_eq_false k4] at h13
                  have hcc : ctl s[i] = true := by simp [ctl, k1, k2, k3, k4]
                  have hT : bkq s i0 = none := by
                    unfold bkq
                    rw [hn, hbk]
                    cases bkF (s.drop (i + 1)) with
                    | none => rfl
                    | some q =>
                      simp only [Option.map_some]
                      rw [if_neg]
                      unfold rawB
                      rw [List.any_append, List.any_cons, hcc]
                      simp
                  rw [hT]
                  simp -implicitDefEqProofs only [r41_8, r41_9, opn_z, opn_s, sel_z, sel_s, qCd_eq, qIf_true, qPick_true, qG_tt, qLss_int, qNeq_int, AV.kill, AV.kills, hx, cc, decide_true, h9, h10, h13, Bool.not_false]
                  exact ⟨rfl, _, _, rfl⟩
          · have cc : ¬ (s[i].toNat : Int) < 32 := by omega
            have hcc : ctl s[i] = false := by simp [ctl, k1]
            simp -implicitDefEqProofs only [r41_8, opn_z, opn_s, sel_z, sel_s, qCd_eq, qIf_false, qPick_false, qG_ft, qLss_int, hx, cc, decide_false]
            (first | exact go hcc _ _ _ _ | (apply go hcc <;> exact Aes.undef))
        by_cases b3 : ((s.length - i : Nat) : Int) ≥ 3
        · have sl3 := fun k => slcS_mid s i (i + 3) (by omega) (by omega) k
          by_cases b4 : ((s.length - i : Nat) : Int) ≥ 4
          · have sl4 := fun k => slcS_mid s i (i + 4) (by omega) (by omega) k
            simp -implicitDefEqProofs only [l41_8, r41_2, r41_4, r41_6, opn_z, opn_s, sel_z, sel_s, qCd_eq, qIf_true, qIf_false, qBl_eq, qPick_true, qG_tt, qLss_int, qGeq_int, qAdd_int, qSub_int, qLenS_str, c1, decide_true, ws, b3, b4, w3, w4, sl3, q3, sl4, q4]
            (first | exact rest _ _ _ _ | (apply rest <;> exact Aes.undef))
          · simp -implicitDefEqProofs only [l41_8, r41_2, r41_4, r41_6, opn_z, opn_s, sel_z, sel_s, qCd_eq, qIf_true, qIf_false, qBl_eq, qPick_true, qPick_false, qG_tt, qG_ft, qLss_int, qGeq_int, qAdd_int, qSub_int, qLenS_str, c1, decide_true, decide_false, ws, b3, b4, w3, sl3, q3]
            (first | exact rest _ _ _ _ | (apply rest <;> exact Aes.undef))
        · have b4 : ¬ ((s.length - i : Nat) : Int) ≥ 4 := by omega
          simp -implicitDefEqProofs only [l41_8, r41_2, r41_4, r41_6, opn_z, opn_s, sel_z, sel_s, qCd_eq, qIf_true, qIf_false, qBl_eq, qPick_false, qG_ft, qLss_int, qGeq_int, qSub_int, qLenS_str, c1, decide_true, decide_false, ws, b3, b4]
          (first | exact rest _ _ _ _ | (apply rest <;> exact Aes.undef))
  · have c1 : ¬ (i : Int) < (s.length : Int) := by omega
    have hT : bkq s i0 = none := by
      unfold bkq
      rw [hn, List.drop_eq_nil_of_le (by omega)]
      rfl
    rw [hT]
    simp -implicitDefEqProofs only [l41_8, r41_2, r41_10, opn_z, opn_s, sel_z, sel_s, qCd_eq, qIf_false, qBl_eq, qLss_int, qLenS_str, AV.kill, AV.kills, c1, decide_false]
    exact ⟨rfl, _, _, rfl⟩
theorem epRBlock (s : Str) (hl : s.length < 800000) (i0 : Nat) (hi0 : i0 ≤ s.length) : ∃ v, RdOk i0 (bkq s i0) v ∧ ∀ H, EP4 41 [.str s, .int .i64 (i0 : Int)] H = some (.val v H) :=
  uo_form_ex (X := X) (D := OD2) (O := OF4) (S := PS) (al := [.str s, .int .i64 (i0 : Int)]) e41 xf41 rfl rfl rfl (Q := fun v => RdOk i0 (bkq s i0) v) (rblock_walk s hl i0 hi0)
end T
