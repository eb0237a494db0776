import Derived.Test.YtphgikpdbaeeoaaDoorRdX
set_option linter.all false
set_option linter.unusedVariables false
set_option linter.unusedSimpArgs false
set_option maxRecDepth 10000
namespace T
open Go Go.Aes Go.Proofs

/-! ### a list that can be read: held in the hand, or in the heap -/
inductive Rd (H : AH) (n : Nat) (rows : List (List AV)) : AV → Prop where
  | sl (tk : Tk) : Rd H n rows (.sl rows tk)
  | hsl (i len cap : Nat) (g : Bool) (cs : List AV) (h : H.get i = some (.cells cs)) (hc : cs.take (rows.length * n) = rows.flatten) (hl : len = rows.length) : Rd H n rows (.hsl i 0 len cap n g)

theorem Rd.keep {H H' : AH} {n : Nat} {rows : List (List AV)} {v : AV} (h : Rd H n rows v) (k : ∀ i cs, H.get i = some (.cells cs) → H'.get i = some (.cells cs)) : Rd H' n rows v := by
  cases h with
  | sl tk => exact .sl tk
  | hsl i len cap g cs h hc hl => exact .hsl i len cap g cs (k i _ h) hc hl
theorem Rd.kp {H H' : AH} [IsFn H] {n : Nat} {rows : List (List AV)} {v : AV} (h : Rd H n rows v) (k : Kp H H' (fun _ => False)) : Rd H' n rows v :=
  h.keep fun i cs hg => (k.keep i (lt_i hg) (fun h => h)).trans hg
theorem Rd.len {H : AH} {n : Nat} {rows : List (List AV)} {v : AV} (h : Rd H n rows v) (k : AV → Prop) : qLenL v k = k (.int .i64 (rows.length : Int)) := by
  cases h with
  | sl tk => rfl
  | hsl i len cap g cs h hc hl => subst hl; rfl
theorem Rd.one {H : AH} {n : Nat} {rows : List (List AV)} {v : AV} (h : Rd H n rows v) : one v = true := by cases h <;> rfl
theorem flat_get : ∀ {rows : List (List AV)} {n : Nat}, (∀ r ∈ rows, r.length = n) → ∀ {i : Nat} {r : List AV}, rows[i]? = some r → (rows.flatten.drop (i * n)).take n = r
  | [], n, h, i, r, hi => by simp at hi
  | a :: rows, n, h, 0, r, hi => by
    simp at hi
    subst hi
    have := h a (by simp)
    simp [← this]
  | a :: rows, n, h, i + 1, r, hi => by
    have ha := h a (by simp)
    rw [List.flatten_cons, Nat.add_mul, Nat.one_mul, Nat.add_comm, ← List.drop_drop, ← ha, List.drop_left, ha]
    exact flat_get (fun r hr => h r (by simp [hr])) (by simpa using hi)
theorem Rd.at_ {H : AH} {n : Nat} {rows : List (List AV)} {v : AV} (h : Rd H n rows v) (hr : ∀ r ∈ rows, r.length = n) {i : Nat} {r : List AV} (hi : rows[i]? = some r) :
    ∃ p, (∀ k : AV → Prop, qIa n v (.int .i64 (i : Int)) k = k p) ∧ (∀ k : AV → Prop, qLdA n p H k = k (.agg r)) ∧ (∀ a, r = [a] → ∀ k : AV → Prop, qLd p H k = k a) := by
  have hrl := hr r (List.mem_of_getElem? hi)
  cases h with
  | sl tk =>
    refine ⟨.vptr r 0, fun k => qIa_rows hi hrl k, fun k => by rw [qLdA_vptr, slice_whole r n hrl, qO_some], fun a ha k => by subst ha; rfl⟩
  | hsl j len cap g cs hg hc hlen =>
    subst hlen
    have hil : i < rows.length := (List.getElem?_eq_some_iff.1 hi).1
    have hfl := flat_get hr hi
    rw [← hc, List.drop_take, List.take_take, Nat.min_eq_left (by
      have h1 : (i + 1) * n ≤ rows.length * n := Nat.mul_le_mul_right n hil
      rw [Nat.add_mul, Nat.one_mul] at h1
      omega)] at hfl
    have hsl : slice? cs (0 + i * n) n = some r := by
      rw [Nat.zero_add]
      simp only [slice?, hfl, hrl, Nat.beq_refl, cond_true]
    refine ⟨.ptr j (0 + i * n), fun k => qIa_hsl .i64 k n j 0 rows.length cap g i hil, fun k => ldA hg _ hsl k, fun a ha k => ?_⟩
    subst ha
    refine ld1 hg _ a ?_ k
    rw [Nat.zero_add]
    have := congrArg (·[0]?) hfl
    simpa [List.getElem?_take, List.getElem?_drop, ← hrl] using this

/-! ### maps that are sets of names -/
def setE (ns : List Str) : List (AV × AV) := ns.map fun n => (.str n, .bool true)
theorem und111 : X.und 111 = some (.map 9 4) := by kernel_rfl
theorem und9 : X.und 9 = some .string := by kernel_rfl
theorem und4 : X.und 4 = some .bool := by kernel_rfl
theorem unz4 : unZ X 4 = some (.bool false) := by kernel_rfl
theorem look_set : ∀ (ns : List Str) (s : Str), Aes.look (.str s) (setE ns) = some (if ns.contains s then some (.bool true) else none)
  | [], s => rfl
  | n :: ns, s => by
    have ih := look_set ns s
    simp only [setE, List.map_cons, Aes.look, keyEq]
    rw [show eqL s n = decide (s = n) from eqL_eq s n]
    by_cases h : s = n
    · subst h
      simp
    · rw [decide_eq_false h]
      simp only [setE] at ih
      simp only [ih, List.contains_cons]
      have : (s == n) = false := by simpa using h
      rw [this, Bool.false_or]
theorem lookup_set {H : AH} {r : Nat} {ns : List Str} (hg : H.get r = some (.map (setE ns))) (s : Str) : lookup X 111 (.map (some r)) (.str s) false H = some (.bool (ns.contains s)) := by
  unfold lookup
  simp only [und111, und9, keyTy, Bool.not_true, cond_false, hg, look_set]
  cases h : ns.contains s with
  | true => simp
  | false => simp [unz4]
theorem upd_set : ∀ (ns : List Str) (s : Str), ns.contains s = false → upd (.str s) (.bool true) (setE ns) = some (setE (ns ++ [s]))
  | [], s, _ => rfl
  | n :: ns, s, h => by
    simp only [List.contains_cons, Bool.or_eq_false_iff] at h
    have ih := upd_set ns s h.2
    have hn : eqL s n = false := by rw [eqL_eq]; simpa using h.1
    simp only [setE, List.map_cons, upd, keyEq, hn] at ih ⊢
    rw [ih]
    rfl
theorem mset_set {H : AH} [IsFn H] {r : Nat} {ns : List Str} (hg : H.get r = some (.map (setE ns))) (s : Str) (hs : ns.contains s = false) (k : AV → AH → Prop) :
    qMset X 111 (.map (some r)) (.str s) (.bool true) H k = k Aes.undef (H.set r (some (.map (setE (ns ++ [s]))))) := by
  unfold qMset mapSet
  simp only [und111, und9, keyTy, Bool.not_true, cond_false, okI_i (lt_i hg), hg, upd_set ns s hs]
  rfl

/-! ### right texts, right names -/
theorem ep55 (s : Str) (h : s.length < 1000000000000) (H : AH) : EP 55 [.str s] H = some (.val (.bool (Lib.validD s)) H) := by
  refine evO_O rfl ?_
  have hb : s.length.ble 9223372036854775807 = true := by rw [Nat.ble_eq]; omega
  have : OF2 55 [.str s] H = oValid [.str s] H := rfl
  rw [this]
  simp [oValid, hb]
theorem ep30 (s : Str) (h : s.length < 1000000000000) (H : AH) : EP 30 [.str s] H = some (.val (.bool (Lib.validD s)) H) := by
  refine uo_form e30 xf30 rfl rfl rfl rfl ?_ H
  simp only [AV.kills, AV.kill]
  simp -implicitDefEqProofs only [c30, r30_0, r30_1, opn_z, opn_s, sel_z, sel_s, qFn_eq, qRes_val, AV.kill, ep55 s h]

def nmF : List Str → List Str → Bool
  | _, [] => true
  | seen, n :: r => if seen.contains n || !Lib.validD n then false else nmF (seen ++ [n]) r

theorem names_walk {H : AH} [IsFn H] {nv : AV} {ns : List Str} (hN : Rd H 1 (strRows ns) nv) (hl : ns.length < 1000000000) (hs : ∀ n ∈ ns, n.length < 1000000000000) (Q : AV → AH → Prop)
    (hQ : ∀ H', Kp H H' (fun _ => False) → Q (.bool (nmF [] ns)) H') : c73 EP [nv] H Q := by
  have ln := fun k => hN.len k
  rw [strRows_len] at ln
  simp -implicitDefEqProofs only [c73, r73_0, r73_1, r73_2, opn_z, opn_s, qFn_eq, qBl_eq, qNew_i, wr_map, ln]
  have hr1 : ∀ r ∈ strRows ns, r.length = 1 := by
    intro r hr
    obtain ⟨y, _, rfl⟩ := List.mem_map.1 hr
    rfl
  refine loop_inv (fun m fr H' => ∃ (i : Nat) (x5 x10 x20 : AV), m = ns.length - i ∧ i ≤ ns.length ∧ nmF [] ns = nmF (ns.take i) (ns.drop i) ∧ fr = [nv, .bool false, .map (some H.nx), x5, nv, .int .i64 (ns.length : Int), .int .i64 (i : Int), x10, x20] ∧
    Kp H H' (fun _ => False) ∧ H'.get H.nx = some (.map (setE (ns.take i)))) ?_ (m := ns.length) ?_
  · rintro m fr H' k ⟨i, x5, x10, x20, rfl, hi, hn, rfl, kp, hg⟩ hk
    haveI := kp.fn
    rcases Nat.lt_or_ge i ns.length with h | h
    · have h' : (i : Int) < (ns.length : Int) := by omega
      have hget : (strRows ns)[i]? = some [.str ns[i]] := by simp [strRows, h]
      obtain ⟨p, p1, p2, p3⟩ := (hN.kp kp).at_ hr1 hget
      have p3' := p3 _ rfl
      have lk := lookup_set hg ns[i]
      have hv := fun H => ep30 ns[i] (hs _ (List.getElem_mem h)) H
      have hw := wrap_up i (by omega)
      rw [List.drop_eq_getElem_cons h] at hn
      simp only [nmF] at hn
      cases hc : (ns.take i).contains ns[i] with
      | true =>
        rw [hc] at lk hn
        simp only [Bool.true_or, if_true] at hn
        simp -implicitDefEqProofs only [l73_5, r73_3, r73_4, r73_5, r73_6, opn_z, opn_s, sel_z, sel_s, qCd_eq, qIf_true, qBl_eq, qO_some, qPick_true, qG_tf, qLss_int, h', decide_true, p1, p3', lk]
        have := hQ H' kp
        rwa [hn] at this
      | false =>
        rw [hc] at lk hn
        have ms := fun k => mset_set hg ns[i] hc k
        cases hv2 : Lib.validD ns[i] with
        | false =>
          rw [hv2] at hv hn
          simp only [Bool.not_false, Bool.or_true, if_true] at hn
          simp -implicitDefEqProofs only [l73_5, r73_3, r73_4, r73_5, r73_6, opn_z, opn_s, sel_z, sel_s, qCd_eq, qIf_true, qBl_eq, qO_some, qRes_val, qPick_false, qG_ff, qNot_bool, qLss_int, h', decide_true, p1, p3', lk, hv, Bool.not_false]
          have := hQ H' kp
          rwa [hn] at this
        | true =>
          rw [hv2] at hv hn
          simp only [Bool.not_true, Bool.or_false, Bool.false_eq_true, if_false] at hn
          simp -implicitDefEqProofs only [l73_5, r73_3, r73_4, r73_5, r73_7, r73_8, opn_z, opn_s, sel_z, sel_s, qCd_eq, qIf_true, qIf_false, qBl_eq, qO_some, qRes_val, qPick_false, qG_ff, qNot_bool, qLss_int, qAdd_int, h', decide_true, p1, p3', lk, hv, Bool.not_true, ms, hw]
          refine hk (ns.length - (i + 1)) _ _ (by omega) ⟨i + 1, _, _, _, rfl, h, ?_, rfl, ?_, ?_⟩
          · rw [hn, take_succ' (List.getElem?_eq_getElem h)]
          · exact ⟨inferInstance, by rw [AH.nx_set]; exact kp.nx, fun j hj hp => by rw [get_set_i (lt_i hg), if_neg (by omega)]; exact kp.keep j hj hp⟩
          · rw [get_set_i (lt_i hg), if_pos rfl, take_succ' (List.getElem?_eq_getElem h)]
    · have h' : ¬ (i : Int) < (ns.length : Int) := by omega
      have hi' : i = ns.length := by omega
      subst hi'
      rw [List.drop_length] at hn
      simp -implicitDefEqProofs only [l73_5, r73_3, r73_9, opn_z, opn_s, sel_z, sel_s, qCd_eq, qIf_false, qBl_eq, qLss_int, h', decide_false]
      have := hQ H' kp
      rwa [hn] at this
  · exact ⟨0, _, _, _, rfl, by omega, rfl, rfl, Kp.push _ _, get_push_at _⟩

theorem ep73 {H : AH} [IsFn H] {nv : AV} {ns : List Str} (hN : Rd H 1 (strRows ns) nv) (hl : ns.length < 1000000000) (hs : ∀ n ∈ ns, n.length < 1000000000000) :
    ∃ H', EP 73 [nv] H = some (.val (.bool (nmF [] ns)) H') ∧ Kp H H' (fun _ => False) := by
  cases hN with
  | sl tk =>
    refine ⟨H, ?_, .refl _⟩
    refine uo_form e73 xf73 rfl rfl (by simp only [AV.kills, AV.kill, AV.frees, Tk.kill_free, strRows_kill, strRows_free]; rfl) rfl ?_ H
    simp only [AV.kills, AV.kill, strRows_kill]
    exact names_walk (.sl _) hl hs _ (fun H' _ => rfl)
  | hsl i len cap g cs hg hc hlen =>
    obtain ⟨v, H', h1, h2, h3⟩ := ao_form (al := [.hsl i 0 len cap 1 g]) (H := H) e73 xf73 rfl rfl (Q := fun v H' => v = .bool (nmF [] ns) ∧ Kp H H' (fun _ => False))
      (names_walk (.hsl i len cap g cs hg hc hlen) hl hs _ (fun H' kp => ⟨rfl, kp⟩))
    exact ⟨H', h1.trans (by rw [h2]), h3⟩

/-! ### right values -/
def sT : Str := [116, 114, 117, 101]
def sF : Str := [102, 97, 108, 115, 101]
def rightF : Nat → Val → Bool
  | 0, _ => false
  | d + 1, .mk k s ns l =>
    if k = 1 then decide (ns = []) && decide (l = []) && decide (s = [])
    else if k = 2 then decide (ns = []) && decide (l = []) && (decide (s = sT) || decide (s = sF))
    else if k = 3 ∨ k = 4 then decide (ns = []) && decide (l = []) && (num s).2 && ((num s).1 == decide (k = 3))
    else if k = 5 then decide (ns = []) && decide (l = []) && Lib.validD s
    else if k = 7 then decide (s = []) && decide (ns = []) && l.all (rightF d)
    else if k = 8 then decide (s = []) && decide (ns.length = l.length) && nmF [] ns && l.all (rightF d)
    else false

mutual
def vsz : Val → Prop
  | .mk _ s ns l => s.length < 1000000000000 ∧ ns.length < 1000000000 ∧ (∀ n ∈ ns, n.length < 1000000000000) ∧ l.length < 1000000000 ∧ vszs l
def vszs : List Val → Prop
  | [] => True
  | v :: l => vsz v ∧ vszs l
end
theorem vszs_mem : ∀ {l : List Val}, vszs l → ∀ v ∈ l, vsz v
  | [], _, v, hv => by cases hv
  | a :: l, ⟨h1, h2⟩, v, hv => by
    rcases List.mem_cons.1 hv with rfl | hv
    · exact h1
    · exact vszs_mem h2 v hv

def RightOk (d : Nat) : Prop := ∀ (v : Val) (r : List AV), EV v r → vsz v → ∀ H, EP 45 [.agg r, .int .i64 (d : Int)] H = some (.val (.bool (rightF d v)) H)

theorem dec_len0 {α : Type} [DecidableEq (List α)] (l : List α) : ((l.length : Int) == 0) = decide (l = []) := by
  cases l with
  | nil => simp
  | cons a l => simp; omega
theorem dec_len0' {α : Type} (l : List α) [Decidable (l = [])] : ((l.length : Int) == 0) = decide (l = []) := by
  cases l with
  | nil => simp
  | cons a l => simp; omega

/-- the parts, one by one -/
theorem right_loop (d : Nat) (hd : d < 1000) (ih : RightOk d) {Hs : AH} [IsFn Hs] {lv : AV} {l : List Val} {rows : List (List AV)} (hE : EVs l rows) (hsz : vszs l) (hl : l.length < 1000000000) (hL : Rd Hs 4 rows lv) (kr kb : KT Prop)
    (hno : l.all (rightF d) = false → ∀ H', Kp Hs H' (fun _ => False) → ∀ (x0 x1 x2 x5 x6 x7 x9 x11 x23 x24 x32 x45 x65 x73 x83 x84 x103 x105 x106 x107 x108 x115 : AV), kr [x0, x1, x2, .bool false, x5, x6, x7, x9, x11, x23, x24, x32, x45, x65, x73, x83, x84, x103, x105, x106, x107, x108, x115] H')
    (hyes : l.all (rightF d) = true → ∀ H', Kp Hs H' (fun _ => False) → ∀ (x0 x1 x2 x4 x5 x6 x7 x9 x11 x23 x24 x32 x45 x65 x73 x83 x84 x103 x105 x106 x107 x108 x115 : AV), kb [x0, x1, x2, x4, x5, x6, x7, x9, x11, x23, x24, x32, x45, x65, x73, x83, x84, x103, x105, x106, x107, x108, x115] H') {H : AH} (kp : Kp Hs H (fun _ => False)) (x0 x2 x4 x5 x6 x7 x9 x11 x23 x24 x32 x45 x65 x73 x83 x84 x103 x108 x115 : AV) :
    qLoop (l45_5 EP kb kr) [x0, .int .i64 ((d + 1 : Nat) : Int), x2, x4, x5, x6, x7, x9, x11, x23, x24, x32, x45, x65, x73, x83, x84, x103, lv, .int .i64 (l.length : Int), .int .i64 0, x108, x115] H := by
  refine loop_inv (fun m fr H' => ∃ (i : Nat) (x0 x2 x4 x5 x6 x7 x9 x11 x23 x24 x32 x45 x65 x73 x83 x84 x103 x108 x115 : AV), m = l.length - i ∧ i ≤ l.length ∧ (∀ v ∈ l.take i, rightF d v = true) ∧ fr = [x0, .int .i64 ((d + 1 : Nat) : Int), x2, x4, x5, x6, x7, x9, x11, x23, x24, x32, x45, x65, x73, x83, x84, x103, lv, .int .i64 (l.length : Int), .int .i64 (i : Int), x108, x115] ∧ Kp Hs H' (fun _ => False)) ?_ (m := l.length) ?_
  · rintro m fr H' k ⟨i, x0, x2, x4, x5, x6, x7, x9, x11, x23, x24, x32, x45, x65, x73, x83, x84, x103, x108, x115, rfl, hi, hall, rfl, kp'⟩ hk
    haveI := kp'.fn
    rcases Nat.lt_or_ge i l.length with h | h
    · have h' : (i : Int) < (l.length : Int) := by omega
      obtain ⟨r, e1, e2⟩ := hE.get (List.getElem?_eq_getElem h)
      obtain ⟨p, p1, p2, _⟩ := (hL.kp kp').at_ hE.four e1
      obtain ⟨q, Ha, Hb, x1, x2, x3, x4, x5, x6⟩ := boxK (R := Prop) (Hs := Hs) (H := H') kp' z25 r (n := 4) rfl e2.four e2.ones
      have ld := fun k => qLdA_whole (R := Prop) x3 e2.four k
      have hd1 : IntKind.i64.wrap (((d + 1 : Nat) : Int) - 1) = (d : Int) := wrap_dn d (by omega)
      have hc := fun H => ih l[i] r e2 (vszs_mem hsz _ (List.getElem_mem h)) H
      have hw := wrap_up i (by omega)
      cases hb : rightF d l[i] with
      | false =>
        rw [hb] at hc
        simp -implicitDefEqProofs only [l45_5, r45_23, r45_24, r45_25, r45_26, opn_z, opn_s, sel_z, sel_s, qCd_eq, qIf_true, qBl_eq, qRes_val, qNot_bool, qLss_int, qSub_int, h', decide_true, p1, p2, x1, x2, ld, hd1, hc, Bool.not_false]
        refine hno ?_ Hb x5 _ _ _ _ _ _ _ _ _ _ _ _ _ _ _ _ _ _ _ _ _ _
        rw [List.all_eq_false]
        exact ⟨l[i], List.getElem_mem h, by simp [hb]⟩
      | true =>
        rw [hb] at hc
        simp -implicitDefEqProofs only [l45_5, r45_23, r45_24, r45_25, r45_27, opn_z, opn_s, sel_z, sel_s, qCd_eq, qIf_true, qIf_false, qBl_eq, qRes_val, qNot_bool, qLss_int, qAdd_int, qSub_int, h', decide_true, p1, p2, x1, x2, ld, hd1, hc, Bool.not_true, hw]
        refine hk (l.length - (i + 1)) _ _ (by omega) ⟨i + 1, _, _, _, _, _, _, _, _, _, _, _, _, _, _, _, _, _, _, _, rfl, h, ?_, rfl, x5⟩
        intro v hv
        rw [take_succ' (List.getElem?_eq_getElem h)] at hv
        rcases List.mem_append.1 hv with hv | hv
        · exact hall v hv
        · obtain rfl := List.mem_singleton.1 hv
          exact hb
    · have h' : ¬ (i : Int) < (l.length : Int) := by omega
      have hi' : i = l.length := by omega
      subst hi'
      rw [List.take_length] at hall
      simp -implicitDefEqProofs only [l45_5, r45_23, opn_z, opn_s, sel_z, sel_s, qCd_eq, qIf_false, qBl_eq, qLss_int, h', decide_false]
      exact hyes (List.all_eq_true.2 hall) H' kp' _ _ _ _ _ _ _ _ _ _ _ _ _ _ _ _ _ _ _ _ _ _ _
  · exact ⟨0, _, _, _, _, _, _, _, _, _, _, _, _, _, _, _, _, _, _, _, rfl, by omega, by simp, rfl, kp⟩
end T
set_option linter.unusedVariables false
set_option linter.unusedSimpArgs false
set_option maxRecDepth 10000
namespace T
open Go Go.Aes Go.Proofs

theorem qEql_bool (a b : Bool) (k : AV → Prop) : qEql X 4 (.bool a) (.bool b) k = k (.bool (a == b)) := by
  unfold qEql intsK
  simp only [binop, und4, refEq, Option.map_some, qO_some]

set_option maxHeartbeats 2000000 in
theorem right_walk (d : Nat) (hd : d < 1000) (ih : RightOk d) {H : AH} [IsFn H] {kind : Int} {s : Str} {ns : List Str} {l : List Val} {nv lv : AV} {rows : List (List AV)} (hN : Rd H 1 (strRows ns) nv) (hL : Rd H 4 rows lv) (hE : EVs l rows)
    (hsz : vsz (.mk kind s ns l)) (Q : AV → AH → Prop) (hQ : ∀ H', Kp H H' (fun _ => False) → Q (.bool (rightF (d + 1) (.mk kind s ns l))) H') : c45 EP [.agg [.int .i64 kind, .str s, nv, lv], .int .i64 ((d + 1 : Nat) : Int)] H Q := by
  obtain ⟨z1, z2, z3, z4, z5⟩ := hsz
  have o1 := hN.one
  have o2 := hL.one
  have bx : ∀ k : AV → AH → Prop, qBox (.agg [.int .i64 kind, .str s, nv, lv]) H k = k (.ptr H.nx 0) (H.push (.cells [.int .i64 kind, .str s, nv, lv])) := fun k => by
    rw [qBox_i, cells_agg]
    simp only [allOne_cons, allOne_nil, one_int, one_str, o1, o2, Bool.and_true, cond_true]
  have g0 := get_push_at (H := H) (.cells [.int .i64 kind, .str s, nv, lv])
  have kp : Kp H (H.push (.cells [.int .i64 kind, .str s, nv, lv])) (fun _ => False) := Kp.push _ _
  have hN' := hN.kp kp
  have hL' := hL.kp kp
  have hd1 : ¬ (((d + 1 : Nat) : Int) < 1) := by omega
  simp -implicitDefEqProofs only [c45, r45_0, r45_1, opn_z, opn_s, sel_z, sel_s, qCd_eq, qIf_false, qFn_eq, qBl_eq, qLss_int, bx, hd1, decide_false]
  generalize H.push (.cells [.int .i64 kind, .str s, nv, lv]) = Ha at *
  haveI := kp.fn
  have p0 := fun k => ld1 (R := Prop) g0 0 _ rfl k
  have p1 := fun k => ld1 (R := Prop) g0 1 _ rfl k
  have p2 := fun k => ld1 (R := Prop) g0 2 _ rfl k
  have p3 := fun k => ld1 (R := Prop) g0 3 _ rfl k
  have e1 := fun k => hN'.len k
  have e2 := fun k => hL'.len k
  rw [strRows_len] at e1
  rw [hE.len] at e2
  have b1 := dec_len0' ns
  have b2 := dec_len0' l
  have q := hQ Ha kp
  have bare : ∀ (k : KT Prop), (∀ (x0 x6 x7 x9 x11 x23 x24 x32 x45 x65 x73 x83 x84 x103 x105 x106 x107 x108 x115 : AV), k [x0, .int .i64 ((d + 1 : Nat) : Int), .ptr H.nx 0, .bool false, .bool (decide (ns = []) && decide (l = [])), x6, x7, x9, x11, x23, x24, x32, x45, x65, x73, x83, x84, x103, x105, x106, x107, x108, x115] Ha) → ∀ (x0 x5 x6 x7 x9 x11 x23 x24 x32 x45 x65 x73 x83 x84 x103 x105 x106 x107 x108 x115 : AV), r45_3 k [x0, .int .i64 ((d + 1 : Nat) : Int), .ptr H.nx 0, .bool false, x5, x6, x7, x9, x11, x23, x24, x32, x45, x65, x73, x83, x84, x103, x105, x106, x107, x108, x115] Ha := by
    intro k hk x0 x5 x6 x7 x9 x11 x23 x24 x32 x45 x65 x73 x83 x84 x103 x105 x106 x107 x108 x115
    cases hb1 : decide (ns = []) with
    | false =>
      rw [hb1] at hk b1
      simp -implicitDefEqProofs only [r45_3, opn_z, opn_s, qPick_false, qG_ft, qFa_ptr, qEql_int, Nat.zero_add, p2, e1, b1]
      simpa using hk _ _ _ _ _ _ _ _ _ _ _ _ _ _ _ _ _ _ _
    | true =>
      rw [hb1] at hk b1
      simp -implicitDefEqProofs only [r45_3, opn_z, opn_s, qPick_true, qG_tt, qFa_ptr, qEql_int, Nat.zero_add, p2, p3, e1, e2, b1, b2]
      simpa using hk _ _ _ _ _ _ _ _ _ _ _ _ _ _ _ _ _ _ _
  by_cases k1 : kind = 1
  · subst k1
    have hr : rightF (d + 1) (.mk 1 s ns l) = (decide (ns = []) && decide (l = []) && decide (s = [])) := rfl
    rw [hr] at q
    generalize (decide (ns = []) && decide (l = [])) = bb at *
    (first | apply bare | refine bare _ ?_ _ _ _ _ _ _ _ _ _ _ _ _ _ _ _ _ _ _ _ _)
    intro x0 x6 x7 x9 x11 x23 x24 x32 x45 x65 x73 x83 x84 x103 x105 x106 x107 x108 x115
    cases bb <;> simp -implicitDefEqProofs only [r45_4, r45_6, r45_7, opn_z, opn_s, sel_z, sel_s, qCd_eq, qIf_true, qPick_true, qPick_false, qG_tt, qG_ft, qFa_ptr, qEql_int, Nat.zero_add, p0, p1, beq_self_eq_true, qEql_str] <;> simpa using q
  have n1 : (kind == 1) = false := by simpa using k1
  by_cases k2 : kind = 2
  · subst k2
    have hr : rightF (d + 1) (.mk 2 s ns l) = (decide (ns = []) && decide (l = []) && (decide (s = sT) || decide (s = sF))) := rfl
    rw [hr] at q
    generalize (decide (ns = []) && decide (l = [])) = bb at *
    (first | apply bare | refine bare _ ?_ _ _ _ _ _ _ _ _ _ _ _ _ _ _ _ _ _ _ _ _)
    intro x0 x6 x7 x9 x11 x23 x24 x32 x45 x65 x73 x83 x84 x103 x105 x106 x107 x108 x115
    have hT : decide (s = [116, 114, 117, 101]) = decide (s = sT) := rfl
    have hF : decide (s = [102, 97, 108, 115, 101]) = decide (s = sF) := rfl
    cases bb with
    | false =>
      simp -implicitDefEqProofs only [r45_4, r45_6, r45_8, r45_9, opn_z, opn_s, sel_z, sel_s, qCd_eq, qIf_true, qIf_false, qPick_false, qG_ft, qFa_ptr, qEql_int, Nat.zero_add, qG_un, p0, n1, beq_self_eq_true]
      simpa using q
    | true =>
      cases hst : decide (s = sT) with
      | true =>
        rw [hst] at q
        simp -implicitDefEqProofs only [r45_4, r45_6, r45_8, r45_9, opn_z, opn_s, sel_z, sel_s, qCd_eq, qIf_true, qIf_false, qPick_true, qG_tt, qG_tf, qFa_ptr, qEql_int, Nat.zero_add, p0, p1, n1, beq_self_eq_true, qEql_str, hT, hst]
        simpa using q
      | false =>
        rw [hst] at q
        simp -implicitDefEqProofs only [r45_4, r45_6, r45_8, r45_9, opn_z, opn_s, sel_z, sel_s, qCd_eq, qIf_true, qIf_false, qPick_true, qPick_false, qG_tt, qG_ff, qFa_ptr, qEql_int, Nat.zero_add, p0, p1, n1, beq_self_eq_true, qEql_str, hT, hst, hF]
        simpa using q
  have n2 : (kind == 2) = false := by simpa using k2
  have e15 := fun H => ep15 s z1 H
  have num34 : (kind = 3 ∨ kind = 4) → ∀ (x0 x6 x7 x9 x11 x23 x24 x32 x45 x65 x73 x83 x84 x103 x105 x106 x107 x108 x115 : AV), (r45_12 EP (r45_13 (fun fr H => Q (sel 3 fr) H))) [x0, .int .i64 ((d + 1 : Nat) : Int), .ptr H.nx 0, .bool false, .bool (decide (ns = []) && decide (l = [])), x6, x7, x9, x11, x23, x24, x32, x45, x65, x73, x83, x84, x103, x105, x106, x107, x108, x115] Ha := by
    intro hk x0 x6 x7 x9 x11 x23 x24 x32 x45 x65 x73 x83 x84 x103 x105 x106 x107 x108 x115
    have hr : rightF (d + 1) (.mk kind s ns l) = (decide (ns = []) && decide (l = []) && (num s).2 && ((num s).1 == decide (kind = 3))) := by
      simp only [rightF, if_neg k1, if_neg k2, if_pos hk]
    rw [hr] at q
    have h3 : (kind == 3) = decide (kind = 3) := by
      rw [Bool.eq_iff_iff]; simp
    generalize (decide (ns = []) && decide (l = [])) = bb at *
    generalize num s = nn at *
    obtain ⟨n1', n2'⟩ := nn
    cases bb <;> cases n2' <;> simp -implicitDefEqProofs only [r45_12, r45_13, opn_z, opn_s, sel_z, sel_s, qO_some, qRes_val, qPick_true, qPick_false, qG_tt, qG_ft, qFa_ptr, qExt_tup, qEql_int, Nat.zero_add, List.getElem?_cons_zero, List.getElem?_cons_succ, p0, p1, e15, h3, qEql_bool] <;> simpa using q
  by_cases k3 : kind = 3
  · have n3 : (kind == 3) = true := by simpa using k3
    (first | apply bare | refine bare _ ?_ _ _ _ _ _ _ _ _ _ _ _ _ _ _ _ _ _ _ _ _)
    intro x0 x6 x7 x9 x11 x23 x24 x32 x45 x65 x73 x83 x84 x103 x105 x106 x107 x108 x115
    simp -implicitDefEqProofs only [r45_4, r45_6, r45_8, r45_10, opn_z, opn_s, sel_z, sel_s, qCd_eq, qIf_true, qIf_false, qFa_ptr, qEql_int, Nat.zero_add, p0, n1, n2, n3]
    (first | exact num34 (.inl k3) _ _ _ _ _ _ _ _ _ _ _ _ _ _ _ _ _ _ _ | (apply num34 (.inl k3) <;> exact Aes.undef))
  have n3 : (kind == 3) = false := by simpa using k3
  by_cases k4 : kind = 4
  · have n4 : (kind == 4) = true := by simpa using k4
    (first | apply bare | refine bare _ ?_ _ _ _ _ _ _ _ _ _ _ _ _ _ _ _ _ _ _ _ _)
    intro x0 x6 x7 x9 x11 x23 x24 x32 x45 x65 x73 x83 x84 x103 x105 x106 x107 x108 x115
    simp -implicitDefEqProofs only [r45_4, r45_6, r45_8, r45_10, r45_11, opn_z, opn_s, sel_z, sel_s, qCd_eq, qIf_true, qIf_false, qFa_ptr, qEql_int, Nat.zero_add, p0, n1, n2, n3, n4]
    (first | exact num34 (.inr k4) _ _ _ _ _ _ _ _ _ _ _ _ _ _ _ _ _ _ _ | (apply num34 (.inr k4) <;> exact Aes.undef))
  have n4 : (kind == 4) = false := by simpa using k4
  have h34 : ¬ (kind = 3 ∨ kind = 4) := by omega
  by_cases k5 : kind = 5
  · have n5 : (kind == 5) = true := by simpa using k5
    have hr : rightF (d + 1) (.mk kind s ns l) = (decide (ns = []) && decide (l = []) && Lib.validD s) := by simp only [rightF, if_neg k1, if_neg k2, if_neg h34, if_pos k5]
    rw [hr] at q
    have e30 := fun H => ep30 s z1 H
    generalize (decide (ns = []) && decide (l = [])) = bb at *
    (first | apply bare | refine bare _ ?_ _ _ _ _ _ _ _ _ _ _ _ _ _ _ _ _ _ _ _ _)
    intro x0 x6 x7 x9 x11 x23 x24 x32 x45 x65 x73 x83 x84 x103 x105 x106 x107 x108 x115
    cases bb <;> simp -implicitDefEqProofs only [r45_4, r45_6, r45_8, r45_10, r45_11, r45_14, r45_15, opn_z, opn_s, sel_z, sel_s, qCd_eq, qIf_true, qIf_false, qRes_val, qPick_true, qPick_false, qG_tt, qG_ft, qFa_ptr, qEql_int, Nat.zero_add, p0, p1, n1, n2, n3, n4, n5, e30] <;> simpa using q
  have n5 : (kind == 5) = false := by simpa using k5
  have go : rightF (d + 1) (.mk kind s ns l) = l.all (rightF d) → ∀ H', Kp H H' (fun _ => False) → H'.get H.nx = some (.cells [.int .i64 kind, .str s, nv, lv]) → ∀ (x0 x5 x6 x7 x9 x11 x23 x24 x32 x45 x65 x73 x83 x84 x103 x105 x106 x107 x108 x115 : AV),
      (r45_22 (qLoop (l45_5 EP (r45_28 (fun fr H => Q (sel 3 fr) H)) (fun fr H => Q (sel 3 fr) H)))) [x0, .int .i64 ((d + 1 : Nat) : Int), .ptr H.nx 0, .bool false, x5, x6, x7, x9, x11, x23, x24, x32, x45, x65, x73, x83, x84, x103, x105, x106, x107, x108, x115] H' := by
    intro hr H' kp' hg' x0 x5 x6 x7 x9 x11 x23 x24 x32 x45 x65 x73 x83 x84 x103 x105 x106 x107 x108 x115
    haveI := kp'.fn
    have p3' := fun k => ld1 (R := Prop) hg' 3 _ rfl k
    have e2' := fun k => (hL.kp kp').len k
    rw [hE.len] at e2'
    simp -implicitDefEqProofs only [r45_22, opn_z, opn_s, qFa_ptr, Nat.zero_add, p3', e2']
    (first
      | exact right_loop d hd ih hE z5 z4 hL _ _ (fun ha H'' k'' x0 x1 x2 x5 x6 x7 x9 x11 x23 x24 x32 x45 x65 x73 x83 x84 x103 x105 x106 x107 x108 x115 => by have := hQ H'' k''; rw [hr, ha] at this; exact this)
          (fun ha H'' k'' x0 x1 x2 x4 x5 x6 x7 x9 x11 x23 x24 x32 x45 x65 x73 x83 x84 x103 x105 x106 x107 x108 x115 => by have := hQ H'' k''; rw [hr, ha] at this; simp -implicitDefEqProofs only [r45_28, opn_z, opn_s, sel_z, sel_s]; exact this) kp' _ _ _ _ _ _ _ _ _ _ _ _ _ _ _ _ _ _ _)
  by_cases k7 : kind = 7
  · have n7 : (kind == 7) = true := by simpa using k7
    have hr : rightF (d + 1) (.mk kind s ns l) = (decide (s = []) && decide (ns = []) && l.all (rightF d)) := by simp only [rightF, if_neg k1, if_neg k2, if_neg h34, if_neg k5, if_pos k7]
    (first | apply bare | refine bare _ ?_ _ _ _ _ _ _ _ _ _ _ _ _ _ _ _ _ _ _ _ _)
    intro x0 x6 x7 x9 x11 x23 x24 x32 x45 x65 x73 x83 x84 x103 x105 x106 x107 x108 x115
    cases hs : decide (s = []) with
    | false =>
      rw [hr, hs] at q
      simp -implicitDefEqProofs only [r45_4, r45_6, r45_8, r45_10, r45_11, r45_14, r45_16, r45_17, r45_18, opn_z, opn_s, sel_z, sel_s, qCd_eq, qIf_true, qIf_false, qPick_true, qG_tf, qFa_ptr, qEql_int, Nat.zero_add, p0, p1, n1, n2, n3, n4, n5, n7, qNeq_str, hs, Bool.not_false]
      exact q
    | true =>
      cases hn : decide (ns = []) with
      | false =>
        rw [hr, hs, hn] at q
        rw [hn] at b1
        simp -implicitDefEqProofs only [r45_4, r45_6, r45_8, r45_10, r45_11, r45_14, r45_16, r45_17, r45_18, opn_z, opn_s, sel_z, sel_s, qCd_eq, qIf_true, qIf_false, qPick_false, qG_ff, qFa_ptr, qEql_int, qNeq_int, Nat.zero_add, p0, p1, p2, n1, n2, n3, n4, n5, n7, qNeq_str, hs, Bool.not_true, Bool.not_false, e1, b1]
        exact q
      | true =>
        rw [hn] at b1
        rw [hs, hn, Bool.true_and, Bool.true_and] at hr
        simp -implicitDefEqProofs only [r45_4, r45_6, r45_8, r45_10, r45_11, r45_14, r45_16, r45_17, opn_z, opn_s, sel_z, sel_s, qCd_eq, qIf_true, qIf_false, qPick_false, qG_ff, qFa_ptr, qEql_int, qNeq_int, Nat.zero_add, p0, p1, p2, n1, n2, n3, n4, n5, n7, qNeq_str, hs, Bool.not_true, e1, b1]
        (first | exact go hr Ha kp g0 _ _ _ _ _ _ _ _ _ _ _ _ _ _ _ _ _ _ _ _ | (apply go hr Ha kp g0 <;> exact Aes.undef))
  have n7 : (kind == 7) = false := by simpa using k7
  by_cases k8 : kind = 8
  · have n8 : (kind == 8) = true := by simpa using k8
    have hr : rightF (d + 1) (.mk kind s ns l) = (decide (s = []) && decide (ns.length = l.length) && nmF [] ns && l.all (rightF d)) := by simp only [rightF, if_neg k1, if_neg k2, if_neg h34, if_neg k5, if_neg k7, if_pos k8]
    (first | apply bare | refine bare _ ?_ _ _ _ _ _ _ _ _ _ _ _ _ _ _ _ _ _ _ _ _)
    intro x0 x6 x7 x9 x11 x23 x24 x32 x45 x65 x73 x83 x84 x103 x105 x106 x107 x108 x115
    cases hs : decide (s = []) with
    | false =>
      rw [hr, hs] at q
      simp -implicitDefEqProofs only [r45_4, r45_6, r45_8, r45_10, r45_11, r45_14, r45_16, r45_19, r45_20, r45_21, opn_z, opn_s, sel_z, sel_s, qCd_eq, qIf_true, qIf_false, qPick_true, qG_tf, qFa_ptr, qEql_int, Nat.zero_add, p0, p1, n1, n2, n3, n4, n5, n7, n8, qNeq_str, hs, Bool.not_false]
      exact q
    | true =>
      have hll : ((ns.length : Int) == (l.length : Int)) = decide (ns.length = l.length) := by
        rw [Bool.eq_iff_iff]; simp; omega
      cases hn : decide (ns.length = l.length) with
      | false =>
        rw [hr, hs, hn] at q
        rw [hn] at hll
        simp -implicitDefEqProofs only [r45_4, r45_6, r45_8, r45_10, r45_11, r45_14, r45_16, r45_19, r45_20, r45_21, opn_z, opn_s, sel_z, sel_s, qCd_eq, qIf_true, qIf_false, qPick_true, qPick_false, qG_ff, qG_tf, qFa_ptr, qEql_int, qNeq_int, Nat.zero_add, p0, p1, p2, p3, n1, n2, n3, n4, n5, n7, n8, qNeq_str, hs, Bool.not_true, Bool.not_false, e1, e2, hll]
        exact q
      | true =>
        rw [hn] at hll
        obtain ⟨Hc, e73, kpc⟩ := ep73 hN' z2 z3
        haveI := kpc.fn
        have kp2 : Kp H Hc (fun _ => False) := kp.trans kpc (fun _ _ h => h)
        have gc : Hc.get H.nx = some (.cells [.int .i64 kind, .str s, nv, lv]) := (kpc.keep _ (lt_i g0) (fun h => h)).trans g0
        cases hnm : nmF [] ns with
        | false =>
          have q2 := hQ Hc kp2
          rw [hr, hs, hn, hnm] at q2
          rw [hnm] at e73
          simp -implicitDefEqProofs only [r45_4, r45_6, r45_8, r45_10, r45_11, r45_14, r45_16, r45_19, r45_20, r45_21, opn_z, opn_s, sel_z, sel_s, qCd_eq, qIf_true, qIf_false, qRes_val, qPick_false, qG_ff, qFa_ptr, qNot_bool, qEql_int, qNeq_int, Nat.zero_add, p0, p1, p2, p3, n1, n2, n3, n4, n5, n7, n8, qNeq_str, hs, Bool.not_true, Bool.not_false, e1, e2, hll, e73]
          exact q2
        | true =>
          rw [hs, hn, hnm, Bool.true_and, Bool.true_and, Bool.true_and] at hr
          rw [hnm] at e73
          simp -implicitDefEqProofs only [r45_4, r45_6, r45_8, r45_10, r45_11, r45_14, r45_16, r45_19, r45_20, opn_z, opn_s, sel_z, sel_s, qCd_eq, qIf_true, qIf_false, qRes_val, qPick_false, qG_ff, qFa_ptr, qNot_bool, qEql_int, qNeq_int, Nat.zero_add, p0, p1, p2, p3, n1, n2, n3, n4, n5, n7, n8, qNeq_str, hs, Bool.not_true, e1, e2, hll, e73]
          (first | exact go hr Hc kp2 gc _ _ _ _ _ _ _ _ _ _ _ _ _ _ _ _ _ _ _ _ | (apply go hr Hc kp2 gc <;> exact Aes.undef))
  have n8 : (kind == 8) = false := by simpa using k8
  have hr : rightF (d + 1) (.mk kind s ns l) = false := by simp only [rightF, if_neg k1, if_neg k2, if_neg h34, if_neg k5, if_neg k7, if_neg k8]
  rw [hr] at q
  (first | apply bare | refine bare _ ?_ _ _ _ _ _ _ _ _ _ _ _ _ _ _ _ _ _ _ _ _)
  intro x0 x6 x7 x9 x11 x23 x24 x32 x45 x65 x73 x83 x84 x103 x105 x106 x107 x108 x115
  simp -implicitDefEqProofs only [r45_4, r45_5, r45_6, r45_8, r45_10, r45_11, r45_14, r45_16, r45_19, opn_z, opn_s, sel_z, sel_s, qCd_eq, qIf_false, qFa_ptr, qEql_int, Nat.zero_add, p0, n1, n2, n3, n4, n5, n7, n8]
  exact q

theorem ep45 : ∀ d, d < 1000 → RightOk d := by
  intro d
  induction d with
  | zero =>
    intro _ v r hv hsz H
    obtain ⟨a1, a2⟩ := EV.kill _ _ hv
    refine uo_form e45 xf45 rfl rfl (by simp only [AV.kills, AV.kill, AV.frees, AV.free, a2]; rfl) rfl ?_ H
    simp only [AV.kills, AV.kill]
    cases v with
    | mk k s ns l =>
    obtain ⟨t1, t2, rows, h1, h2⟩ := a1
    rw [h1]
    have bx1 : ∀ q : AV → AH → Prop, qBox (.agg [.int .i64 k, .str s, .sl (strRows ns) t1, .sl rows t2]) H0 q = q (.ptr 0 0) (H0.push (.cells [.int .i64 k, .str s, .sl (strRows ns) t1, .sl rows t2])) := fun q => by rw [qBox_i]; rfl
    have h0 : decide (((0 : Nat) : Int) < 1) = true := rfl
    simp -implicitDefEqProofs only [c45, r45_0, r45_1, r45_2, opn_z, opn_s, sel_z, sel_s, qCd_eq, qIf_true, qFn_eq, qBl_eq, qLss_int, bx1, h0]
    rfl
  | succ d ih =>
    intro hd v r hv hsz H
    obtain ⟨a1, a2⟩ := EV.kill _ _ hv
    refine uo_form e45 xf45 rfl rfl (by simp only [AV.kills, AV.kill, AV.frees, AV.free, a2]; rfl) rfl ?_ H
    simp only [AV.kills, AV.kill]
    cases v with
    | mk k s ns l =>
    obtain ⟨t1, t2, rows, h1, h2⟩ := a1
    rw [h1]
    exact right_walk d (by omega) (ih (by omega)) (.sl t1) (.sl t2) h2 hsz _ (fun H' _ => rfl)

/-- of a value whose lists lie in the heap -/
theorem ep45h (d : Nat) (hd : d < 999) {H : AH} [IsFn H] {kind : Int} {s : Str} {ns : List Str} {l : List Val} {nv : AV} {i len cap : Nat} {g : Bool} {rows : List (List AV)} (hN : Rd H 1 (strRows ns) nv) (hL : Rd H 4 rows (.hsl i 0 len cap 4 g)) (hE : EVs l rows)
    (hsz : vsz (.mk kind s ns l)) : ∃ H', EP 45 [.agg [.int .i64 kind, .str s, nv, .hsl i 0 len cap 4 g], .int .i64 ((d + 1 : Nat) : Int)] H = some (.val (.bool (rightF (d + 1) (.mk kind s ns l))) H') ∧ Kp H H' (fun _ => False) := by
  have hfr : (PS 45 && AV.frees (AV.kills [.agg [.int .i64 kind, .str s, nv, .hsl i 0 len cap 4 g], .int .i64 ((d + 1 : Nat) : Int)])) = false := by
    simp only [AV.kills, AV.kill, AV.frees, AV.free, Bool.and_false, Bool.false_and]
  obtain ⟨v, H', h1, h2, h3⟩ := ao_form (al := [.agg [.int .i64 kind, .str s, nv, .hsl i 0 len cap 4 g], .int .i64 ((d + 1 : Nat) : Int)]) (H := H) e45 xf45 rfl hfr (Q := fun v H' => v = .bool (rightF (d + 1) (.mk kind s ns l)) ∧ Kp H H' (fun _ => False))
    (right_walk d (by omega) (ep45 d (by omega)) hN hL hE hsz _ (fun H' kp => ⟨rfl, kp⟩))
  exact ⟨H', h1.trans (by rw [h2]), h3⟩
end T
set_option linter.unusedVariables false
set_option linter.unusedSimpArgs false
set_option maxRecDepth 10000
namespace T
open Go Go.Aes Go.Proofs

/-! ### Check, and Text of what is not right -/
theorem bxV {H : AH} [IsFn H] {r : List AV} (ha : allOne r = true) (k : AV → AH → Prop) : qBox (.agg r) H k = k (.ptr H.nx 0) (H.push (.cells r)) := by
  rw [qBox_i, cells_agg, ha]; rfl
theorem ep19 {v : Val} {r : List AV} (ev : EV v r) (hsz : vsz v) (H : AH) : EP 19 [.agg r] H = some (.val (.bool (rightF 12 v)) H) := by
  obtain ⟨a1, a2⟩ := EV.kill _ _ ev
  refine uo_form e19 xf19 rfl rfl (by simp only [AV.kills, AV.kill, AV.frees, AV.free, a2]; rfl) rfl ?_ H
  simp only [AV.kills, AV.kill]
  have bx := fun k => bxV (H := H0) a1.ones k
  have ld := fun k => qLdA_whole (R := Prop) (n := 4) (H := H0.push (.cells (AV.kills r))) (i := H0.nx) (get_push_at _) a1.four k
  have hc := fun H => ep45 12 (by omega) v _ a1 hsz H
  have hc' : ∀ H, EP 45 [.agg (AV.kills r), .int .i64 12] H = some (.val (.bool (rightF 12 v)) H) := hc
  simp -implicitDefEqProofs only [c19, r19_0, r19_1, opn_z, opn_s, sel_z, sel_s, qFn_eq, qRes_val, bx, ld, hc', AV.kill]

theorem check_walk {H : AH} [IsFn H] {kind : Int} {s : Str} {ns : List Str} {l : List Val} {nv : AV} {i len cap : Nat} {g : Bool} {rows : List (List AV)} (hN : Rd H 1 (strRows ns) nv) (hL : Rd H 4 rows (.hsl i 0 len cap 4 g)) (hE : EVs l rows)
    (hsz : vsz (.mk kind s ns l)) : ∃ H', EP 19 [.agg [.int .i64 kind, .str s, nv, .hsl i 0 len cap 4 g]] H = some (.val (.bool (rightF 12 (.mk kind s ns l))) H') ∧ Kp H H' (fun _ => False) := by
  have hfr : (PS 19 && AV.frees (AV.kills [.agg [.int .i64 kind, .str s, nv, .hsl i 0 len cap 4 g]])) = false := by
    simp only [AV.kills, AV.kill, AV.frees, AV.free, Bool.and_false, Bool.false_and]
  obtain ⟨v, H', h1, h2, h3⟩ := ao_form (X := X) (D := OD2) (O := OF2) (S := PS) (al := [.agg [.int .i64 kind, .str s, nv, .hsl i 0 len cap 4 g]]) (H := H) e19 xf19 rfl hfr (Q := fun v H' => v = .bool (rightF 12 (.mk kind s ns l)) ∧ Kp H H' (fun _ => False)) (by
    have al : allOne [.int .i64 kind, .str s, nv, .hsl i 0 len cap 4 g] = true := by
      simp only [allOne_cons, allOne_nil, one_int, one_str, one_hsl, hN.one, Bool.and_true]
    have bx := fun k => bxV (H := H) al k
    have ld := fun k => qLdA_whole (R := Prop) (n := 4) (H := H.push (.cells [.int .i64 kind, .str s, nv, .hsl i 0 len cap 4 g])) (i := H.nx) (get_push_at _) rfl k
    have kp : Kp H (H.push (.cells [.int .i64 kind, .str s, nv, .hsl i 0 len cap 4 g])) (fun _ => False) := Kp.push _ _
    obtain ⟨H', e, kp'⟩ := ep45h 11 (by omega) (hN.kp kp) (hL.kp kp) hE hsz
    have e' : EP 45 [.agg [.int .i64 kind, .str s, nv, .hsl i 0 len cap 4 g], .int .i64 12] (H.push (.cells [.int .i64 kind, .str s, nv, .hsl i 0 len cap 4 g])) = some (.val (.bool (rightF 12 (.mk kind s ns l))) H') := e
    simp -implicitDefEqProofs only [c19, r19_0, r19_1, opn_z, opn_s, sel_z, sel_s, qFn_eq, qRes_val, bx, ld, e']
    exact ⟨trivial, kp.trans kp' (fun _ _ h => h)⟩)
  exact ⟨H', h1.trans (by rw [h2]), h3⟩

theorem text_wrong {H : AH} [IsFn H] {kind : Int} {s : Str} {ns : List Str} {l : List Val} {nv : AV} {i len cap : Nat} {g : Bool} {rows : List (List AV)} (hN : Rd H 1 (strRows ns) nv) (hL : Rd H 4 rows (.hsl i 0 len cap 4 g)) (hE : EVs l rows)
    (hsz : vsz (.mk kind s ns l)) (hw : rightF 12 (.mk kind s ns l) = false) : ∃ H', EP 21 [.agg [.int .i64 kind, .str s, nv, .hsl i 0 len cap 4 g]] H = some (.val (.str []) H') ∧ Kp H H' (fun _ => False) := by
  have hfr : (PS 21 && AV.frees (AV.kills [.agg [.int .i64 kind, .str s, nv, .hsl i 0 len cap 4 g]])) = false := by
    simp only [AV.kills, AV.kill, AV.frees, AV.free, Bool.and_false, Bool.false_and]
  obtain ⟨v, H', h1, h2, h3⟩ := ao_form (X := X) (D := OD2) (O := OF2) (S := PS) (al := [.agg [.int .i64 kind, .str s, nv, .hsl i 0 len cap 4 g]]) (H := H) e21 xf21 rfl hfr (Q := fun v H' => v = .str [] ∧ Kp H H' (fun _ => False)) (by
    have al : allOne [.int .i64 kind, .str s, nv, .hsl i 0 len cap 4 g] = true := by
      simp only [allOne_cons, allOne_nil, one_int, one_str, one_hsl, hN.one, Bool.and_true]
    have bx := fun k => bxV (H := H) al k
    have ld := fun k => qLdA_whole (R := Prop) (n := 4) (H := H.push (.cells [.int .i64 kind, .str s, nv, .hsl i 0 len cap 4 g])) (i := H.nx) (get_push_at _) rfl k
    have kp : Kp H (H.push (.cells [.int .i64 kind, .str s, nv, .hsl i 0 len cap 4 g])) (fun _ => False) := Kp.push _ _
    obtain ⟨H', e, kp'⟩ := check_walk (hN.kp kp) (hL.kp kp) hE hsz
    rw [hw] at e
    simp -implicitDefEqProofs only [c21, r21_0, r21_1, r21_2, opn_z, opn_s, sel_z, sel_s, qCd_eq, qIf_true, qFn_eq, qRes_val, qNot_bool, bx, ld, e, Bool.not_false]
    exact ⟨trivial, kp.trans kp' (fun _ _ h => h)⟩)
  exact ⟨H', h1.trans (by rw [h2]), h3⟩
end T
