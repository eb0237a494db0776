import Derived.Test.YtphgikpdbaeeoaaDoorRdX
set_option linter.all false
set_option linter.unusedVariables false
set_option linter.unusedSimpArgs false
set_option maxRecDepth 10000
namespace T
open Go Go.Aes Go.Proofs

/-! ### a list that can be read: held in the hand, or in the heap -/
inductive Rd (H : AH) (n : Nat) (rows : List (List AV)) : AV → Prop where
  | sl (tk : Tk) : Rd H n rows (.sl rows tk)
  | hsl (i len cap : Nat) (g : Bool) (cs : List AV) (h : H.get i = some (.cells cs)) (hc : cs.take (rows.length * n) = rows.flatten) (hl : len = rows.length) : Rd H n rows (.hsl i 0 len cap n g)

theorem Rd.keep {H H' : AH} {n : Nat} {rows : List (List AV)} {v : AV} (h : Rd H n rows v) (k : ∀ i cs, H.get i = some (.cells cs) → H'.get i = some (.cells cs)) : Rd H' n rows v := by
  cases h with
  | sl tk => exact .sl tk
  | hsl i len cap g cs h hc hl => exact .hsl i len cap g cs (k i _ h) hc hl
theorem Rd.kp {H H' : AH} [IsFn H] {n : Nat} {rows : List (List AV)} {v : AV} (h : Rd H n rows v) (k : Kp H H' (fun _ => False)) : Rd H' n rows v :=
  h.keep fun i cs hg => (k.keep i (lt_i hg) (fun h => h)).trans hg
theorem Rd.len {H : AH} {n : Nat} {rows : List (List AV)} {v : AV} (h : Rd H n rows v) (k : AV → Prop) : qLenL v k = k (.int .i64 (rows.length : Int)) := by
  cases h with
  | sl tk => rfl
  | hsl i len cap g cs h hc hl => subst hl; rfl
theorem Rd.one {H : AH} {n : Nat} {rows : List (List AV)} {v : AV} (h : Rd H n rows v) : one v = true := by cases h <;> rfl
theorem flat_get : ∀ {rows : List (List AV)} {n : Nat}, (∀ r ∈ rows, r.length = n) → ∀ {i : Nat} {r : List AV}, rows[i]? = some r → (rows.flatten.drop (i * n)).take n = r
  | [], n, h, i, r, hi => by simp at hi
  | a :: rows, n, h, 0, r, hi => by
    simp at hi
    subst hi
    have := h a (by simp)
    simp [← this]
  | a :: rows, n, h, i + 1, r, hi => by
    have ha := h a (by simp)
    rw [List.flatten_cons, Nat.add_mul, Nat.one_mul, Nat.add_comm, ← List.drop_drop, ← ha, List.drop_left, ha]
    exact flat_get (fun r hr => h r (by simp [hr])) (by simpa using hi)
theorem Rd.at_ {H : AH} {n : Nat} {rows : List (List AV)} {v : AV} (h : Rd H n rows v) (hr : ∀ r ∈ rows, r.length = n) {i : Nat} {r : List AV} (hi : rows[i]? = some r) :
    ∃ p, (∀ k : AV → Prop, qIa n v (.int .i64 (i : Int)) k = k p) ∧ (∀ k : AV → Prop, qLdA n p H k = k (.agg r)) ∧ (∀ a, r = [a] → ∀ k : AV → Prop, qLd p H k = k a) := by
  have hrl := hr r (List.mem_of_getElem? hi)
  cases h with
  | sl tk =>
    refine ⟨.vptr r 0, fun k => qIa_rows hi hrl k, fun k => by rw [qLdA_vptr, slice_whole r n hrl, qO_some], fun a ha k => by subst ha; rfl⟩
  | hsl j len cap g cs hg hc hlen =>
    subst hlen
    have hil : i < rows.length := (List.getElem?_eq_some_iff.1 hi).1
    have hfl := flat_get hr hi
    rw [← hc, List.drop_take, List.take_take, Nat.min_eq_left (by
      have h1 : (i + 1) * n ≤ rows.length * n := Nat.mul_le_mul_right n hil
      rw [Nat.add_mul, Nat.one_mul] at h1
      omega)] at hfl
    have hsl : slice? cs (0 + i * n) n = some r := by
      rw [Nat.zero_add]
      simp only [slice?, hfl, hrl, Nat.beq_refl, cond_true]
    refine ⟨.ptr j (0 + i * n), fun k => qIa_hsl .i64 k n j 0 rows.length cap g i hil, fun k => ldA hg _ hsl k, fun a ha k => ?_⟩
    subst ha
    refine ld1 hg _ a ?_ k
    rw [Nat.zero_add]
    have := congrArg (·[0]?) hfl
    simpa [List.getElem?_take, List.getElem?_drop, ← hrl] using this

/-! ### maps that are sets of names -/
def setE (ns : List Str) : List (AV × AV) := ns.map fun n => (.str n, .bool true)
theorem und111 : X.und 111 = some (.map 9 4) := by kernel_rfl
theorem und9 : X.und 9 = some .string := by kernel_rfl
theorem und4 : X.und 4 = some .bool := by kernel_rfl
theorem unz4 : unZ X 4 = some (.bool false) := by kernel_rfl
theorem look_set : ∀ (ns : List Str) (s : Str), Aes.look (.str s) (setE ns) = some (if ns.contains s then some (.bool true) else none)
  | [], s => rfl
  | n :: ns, s => by
    have ih := look_set ns s
    simp only [setE, List.map_cons, Aes.look, keyEq]
    rw [show eqL s n = decide (s = n) from eqL_eq s n]
    by_cases h : s = n
    · subst h
      simp
    · rw [decide_eq_false h]
      simp only [setE] at ih
      simp only [ih, List.contains_cons]
      have : (s == n) = false := by simpa using h
      rw [this, Bool.false_or]
theorem lookup_set {H : AH} {r : Nat} {ns : List Str} (hg : H.get r = some (.map (setE ns))) (s : Str) : lookup X 111 (.map (some r)) (.str s) false H = some (.bool (ns.contains s)) := by
  unfold lookup
  simp only [und111, und9, keyTy, Bool.not_true, cond_false, hg, look_set]
  cases h : ns.contains s with
  | true => simp
  | false => simp [unz4]
theorem upd_set : ∀ (ns : List Str) (s : Str), ns.contains s = false → upd (.str s) (.bool true) (setE ns) = some (setE (ns ++ [s]))
  | [], s, _ => rfl
  | n :: ns, s, h => by
    simp only [List.contains_cons, Bool.or_eq_false_iff] at h
    have ih := upd_set ns s h.2
    have hn : eqL s n = false := by rw [eqL_eq]; simpa using h.1
    simp only [setE, List.map_cons, upd, keyEq, hn] at ih ⊢
    rw [ih]
    rfl
theorem mset_set {H : AH} [IsFn H] {r : Nat} {ns : List Str} (hg : H.get r = some (.map (setE ns))) (s : Str) (hs : ns.contains s = false) (k : AV → AH → Prop) :
    qMset X 111 (.map (some r)) (.str s) (.bool true) H k = k Aes.undef (H.set r (some (.map (setE (ns ++ [s]))))) := by
  unfold qMset mapSet
  simp only [und111, und9, keyTy, Bool.not_true, cond_false, okI_i (lt_i hg), hg, upd_set ns s hs]
  rfl

/-! ### right texts, right names -/
theorem ep55 (s : Str) (h : s.length < 1000000000000) (H : AH) : EP 55 [.str s] H = some (.val (.bool (Lib.validD s)) H) := by
  refine evO_O rfl ?_
  have hb : s.length.ble 9223372036854775807 = true := by rw [Nat.ble_eq]; omega
  have : OF2 55 [.str s] H = oValid [.str s] H := rfl
  rw [this]
  simp [oValid, hb]
theorem ep30 (s : Str) (h : s.length < 1000000000000) (H : AH) : EP 30 [.str s] H = some (.val (.bool (Lib.validD s)) H) := by
  refine uo_form e30 xf30 rfl rfl rfl rfl ?_ H
  simp only [AV.kills, AV.kill]
  simp -implicitDefEqProofs only [c30, r30_0, r30_1, opn_z, opn_s, sel_z, sel_s, qFn_eq, qRes_val, AV.kill, ep55 s h]

def nmF : List Str → List Str → Bool
  | _, [] => true
  | seen, n :: r => if seen.contains n || !Lib.validD n then false else nmF (seen ++ [n]) r

theorem names_walk {H : AH} [IsFn H] {nv : AV} {ns : List Str} (hN : Rd H 1 (strRows ns) nv) (hl : ns.length < 1000000000) (hs : ∀ n ∈ ns, n.length < 1000000000000) (Q : AV → AH → Prop)
    (hQ : ∀ H', Kp H H' (fun _ => False) → Q (.bool (nmF [] ns)) H') : c73 EP [nv] H Q := by
  have ln := fun k => hN.len k
  rw [strRows_len] at ln
  simp -implicitDefEqProofs only [c73, r73_0, r73_1, r73_2, opn_z, opn_s, qFn_eq, qBl_eq, qNew_i, wr_map, ln]
  have hr1 : ∀ r ∈ strRows ns, r.length = 1 := by
    intro r hr
    obtain ⟨y, _, rfl⟩ := List.mem_map.1 hr
    rfl
  refine loop_inv (fun m fr H' => ∃ (i : Nat) (x5 x10 x20 : AV), m = ns.length - i ∧ i ≤ ns.length ∧ nmF [] ns = nmF (ns.take i) (ns.drop i) ∧ fr = [nv, .bool false, .map (some H.nx), x5, nv, .int .i64 (ns.length : Int), .int .i64 (i : Int), x10, x20] ∧
    Kp H H' (fun _ => False) ∧ H'.get H.nx = some (.map (setE (ns.take i)))) ?_ (m := ns.length) ?_
  · rintro m fr H' k ⟨i, x5, x10, x20, rfl, hi, hn, rfl, kp, hg⟩ hk
    haveI := kp.fn
    rcases Nat.lt_or_ge i ns.length with h | h
    · have h' : (i : Int) < (ns.length : Int) := by omega
      have hget : (strRows ns)[i]? = some [.str ns[i]] := by simp [strRows, h]
      obtain ⟨p, p1, p2, p3⟩ := (hN.kp kp).at_ hr1 hget
      have p3' := p3 _ rfl
      have lk := lookup_set hg ns[i]
      have hv := fun H => ep30 ns[i] (hs _ (List.getElem_mem h)) H
      have hw := wrap_up i (by omega)
      rw [List.drop_eq_getElem_cons h] at hn
      simp only [nmF] at hn
      cases hc : (ns.take i).contains ns[i] with
      | true =>
        rw [hc] at lk hn
        simp only [Bool.true_or, if_true] at hn
        simp -implicitDefEqProofs only [l73_5, r73_3, r73_4, r73_5, r73_6, opn_z, opn_s, sel_z, sel_s, qCd_eq, qIf_true, qBl_eq, qO_some, qPick_true, qG_tf, qLss_int, h', decide_true, p1, p3', lk]
        have := hQ H' kp
        rwa [hn] at this
      | false =>
        rw [hc] at lk hn
        have ms := fun k => mset_set hg ns[i] hc k
        cases hv2 : Lib.validD ns[i] with
        | false =>
          rw [hv2] at hv hn
          simp only [Bool.not_false, Bool.or_true, if_true] at hn
          simp -implicitDefEqProofs only [l73_5, r73_3, r73_4, r73_5, r73_6, opn_z, opn_s, sel_z, sel_s, qCd_eq, qIf_true, qBl_eq, qO_some, qRes_val, qPick_false, qG_ff, qNot_bool, qLss_int, h', decide_true, p1, p3', lk, hv, Bool.not_false]
          have := hQ H' kp
          rwa [hn] at this
        | true =>
          rw [hv2] at hv hn
          simp only [Bool.not_true, Bool.or_false, Bool.false_eq_true, if_false] at hn
          simp -implicitDefEqProofs only [l73_5, r73_3, r73_4, r73_5, r73_7, r73_8, opn_z, opn_s, sel_z, sel_s, qCd_eq, qIf_true, qIf_false, qBl_eq, qO_some, qRes_val, qPick_false, qG_ff, qNot_bool, qLss_int, qAdd_int, h', decide_true, p1, p3', lk, hv, Bool.not_true, ms, hw]
          refine hk (ns.length - (i + 1)) _ _ (by omega) ⟨i + 1, _, _, _, rfl, h, ?_, rfl, ?_, ?_⟩
          · rw [hn, take_succ' (List.getElem?_eq_getElem h)]
          · exact ⟨inferInstance, by rw [AH.nx_set]; exact kp.nx, fun j hj hp => by rw [get_set_i (lt_i hg), if_neg (by omega)]; exact kp.keep j hj hp⟩
          · rw [get_set_i (lt_i hg), if_pos rfl, take_succ' (List.getElem?_eq_getElem h)]
    · have h' : ¬ (i : Int) < (ns.length : Int) := by omega
      have hi' : i = ns.length := by omega
      subst hi'
      rw [List.drop_length] at hn
      simp -implicitDefEqProofs only [l73_5, r73_3, r73_9, opn_z, opn_s, sel_z, sel_s, qCd_eq, qIf_false, qBl_eq, qLss_int, h', decide_false]
      have := hQ H' kp
      rwa [hn] at this
  · exact ⟨0, _, _, _, rfl, by omega, rfl, rfl, Kp.push _ _, get_push_at _⟩

theorem ep73 {H : AH} [IsFn H] {nv : AV} {ns : List Str} (hN : Rd H 1 (strRows ns) nv) (hl : ns.length < 1000000000) (hs : ∀ n ∈ ns, n.length < 1000000000000) :
    ∃ H', EP 73 [nv] H = some (.val (.bool (nmF [] ns)) H') ∧ Kp H H' (fun _ => False) := by
  cases hN with
  | sl tk =>
    refine ⟨H, ?_, .refl _⟩
    refine uo_form e73 xf73 rfl rfl (by simp only [AV.kills, AV.kill, AV.frees, Tk.kill_free, strRows_kill, strRows_free]; rfl) rfl ?_ H
    simp only [AV.kills, AV.kill, strRows_kill]
    exact names_walk (.sl _) hl hs _ (fun H' _ => rfl)
  | hsl i len cap g cs hg hc hlen =>
    obtain ⟨v, H', h1, h2, h3⟩ := ao_form (al := [.hsl i 0 len cap 1 g]) (H := H) e73 xf73 rfl rfl (Q := fun v H' => v = .bool (nmF [] ns) ∧ Kp H H' (fun _ => False))
      (names_walk (.hsl i len cap g cs hg hc hlen) hl hs _ (fun H' kp => ⟨rfl, kp⟩))
    exact ⟨H', h1.trans (by rw [h2]), h3⟩

/-! ### right values -/
def sT : Str := [116, 114, 117, 101]
def sF : Str := [102, 97, 108, 115, 101]
def rightF : Nat → Val → Bool
  | 0, _ => false
  | d + 1, .mk k s ns l =>
    if k = 1 then decide (ns = []) && decide (l = []) && decide (s = [])
    else if k = 2 then decide (ns = []) && decide (l = []) && (decide (s = sT) || decide (s = sF))
    else if k = 3 ∨ k = 4 then decide (ns = []) && decide (l = []) && (num s).2 && ((num s).1 == decide (k = 3))
    else if k = 5 then decide (ns = []) && decide (l = []) && Lib.validD s
    else if k = 7 then decide (s = []) && decide (ns = []) && l.all (rightF d)
    else if k = 8 then decide (s = []) && decide (ns.length = l.length) && nmF [] ns && l.all (rightF d)
    else false

mutual
def vsz : Val → Prop
  | .mk _ s ns l => s.length < 1000000000000 ∧ ns.length < 1000000000 ∧ (∀ n ∈ ns, n.length < 1000000000000) ∧ l.length < 1000000000 ∧ vszs l
def vszs : List Val → Prop
  | [] => True
  | v :: l => vsz v ∧ vszs l
end
theorem vszs_mem : ∀ {l : List Val}, vszs l → ∀ v ∈ l, vsz v
  | [], _, v, hv => by cases hv
  | a :: l, ⟨h1, h2⟩, v, hv => by
    rcases List.mem_cons.1 hv with rfl | hv
    · exact h1
    · exact vszs_mem h2 v hv

def RightOk (d : Nat) : Prop := ∀ (v : Val) (r : List AV), EV v r → vsz v → ∀ H, EP 45 [.agg r, .int .i64 (d : Int)] H = some (.val (.bool (rightF d v)) H)

theorem dec_len0 {α : Type} [DecidableEq (List α)] (l : List α) : ((l.length : Int) == 0) = decide (l = []) := by
  cases l with
  | nil => simp
  | cons a l => simp; omega
theorem dec_len0' {α : Type} (l : List α) [Decidable (l = [])] : ((l.length : Int) == 0) = decide (l = []) := by
  cases l with
  | nil => simp
  | cons a l => simp; omega

/-- the parts, one by one -/
theorem right_loop (d : Nat) (hd : d < 1000) (ih : RightOk d) {Hs : AH} [IsFn Hs] {lv : AV} {l : List Val} {rows : List (List AV)} (hE : EVs l rows) (hsz : vszs l) (hl : l.length < 1000000000) (hL : Rd Hs 4 rows lv) (kr kb : KT Prop)
    (hno : l.all (rightF d) = false → ∀ H', Kp Hs H' (fun _ => False) → ∀ (x0 x1 x2 x5 x6 x7 x9 x11 x23 x24 x32 x45 x65 x73 x83 x84 x103 x105 x106 x107 x108 x115 : AV), kr [x0, x1, x2, .bool false, x5, x6, x7, x9, x11, x23, x24, x32, x45, x65, x73, x83, x84, x103, x105, x106, x107, x108, x115] H')
    (hyes : l.all (rightF d) = true → ∀ H', Kp Hs H' (fun _ => False) → ∀ (x0 x1 x2 x4 x5 x6 x7 x9 x11 x23 x24 x32 x45 x65 x73 x83 x84 x103 x105 x106 x107 x108 x115 : AV), kb [x0, x1, x2, x4, x5, x6, x7, x9, x11, x23, x24, x32, x45, x65, x73, x83, x84, x103, x105, x106, x107, x108, x115] H') {H : AH} (kp : Kp Hs H (fun _ => False)) (x0 x2 x4 x5 x6 x7 x9 x11 x23 x24 x32 x45 x65 x73 x83 x84 x103 x108 x115 : AV) :
    qLoop (l45_5 EP kb kr) [x0, .int .i64 ((d + 1 : Nat) : Int), x2, x4, x5, x6, x7, x9, x11, x23, x24, x32, x45, x65, x73, x83, x84, x103, lv, .int .i64 (l.length : Int), .int .i64 0, x108, x115] H := by
  refine loop_inv (fun m fr H' => ∃ (i : Nat) (x0 x2 x4 x5 x6 x7 x9 x11 x23 x24 x32 x45 x65 x73 x83 x84 x103 x108 x115 : AV), m = l.length - i ∧ i ≤ l.length ∧ (∀ v ∈ l.take i, rightF d v = true) ∧ fr = [x0, .int .i64 ((d + 1 : Nat) : Int), x2, x4, x5, x6, x7, x9, x11, x23, x24, x32, x45, x65, x73, x83, x84, x103, lv, .int .i64 (l.length : Int), .int .i64 (i : Int), x108, x115] ∧ Kp Hs H' (fun _ => False)) ?_ (m := l.length) ?_
  · rintro m fr H' k ⟨i, x0, x2, x4, x5, x6, x7, x9, x11, x23, x24, x32, x45, x65, x73, x83, x84, x103, x108, x115, rfl, hi, hall, rfl, kp'⟩ hk
    haveI := kp'.fn
    rcases Nat.lt_or_ge i l.length with h | h
    · have h' : (i : Int) < (l.length : Int) := by omega
      obtain ⟨r, e1, e2⟩ := hE.get (List.getElem?_eq_getElem h)
      obtain ⟨p, p1, p2, _⟩ := (hL.kp kp').at_ hE.four e1
      obtain ⟨q, Ha, Hb, x1, x2, x3, x4, x5, x6⟩ := boxK (R := Prop) (Hs := Hs) (H := H') kp' z25 r (n := 4) rfl e2.four e2.ones
      have ld := fun k => qLdA_whole (R := Prop) x3 e2.four k
      have hd1 : IntKind.i64.wrap (((d + 1 : Nat) : Int) - 1) = (d : Int) := wrap_dn d (by omega)
      have hc := fun H => ih l[i] r e2 (vszs_mem hsz _ (List.getElem_mem h)) H
      have hw := wrap_up i (by omega)
      cases hb : rightF d l[i] with
      | false =>
        rw [hb] at hc
        simp -implicitDefEqProofs only [l45_5, r45_23, r45_24, r45_25, r45_26, opn_z, opn_s, sel_z, sel_s, qCd_eq, qIf_true, qBl_eq, qRes_val, qNot_bool, qLss_int, qSub_int, h', decide_true, p1, p2, x1, x2, ld, hd1, hc, Bool.not_false]
        refine hno ?_ Hb x5 _ _ _ _ _ _ _ _ _ _ _ _ _ _ _ _ _ _ _ _ _ _
        rw [List.all_eq_false]
        exact ⟨l[i], List.getElem_mem h, by simp [hb]⟩
      | true =>
        rw [hb] at hc
        simp -implicitDefEqProofs only [l45_5, r45_23, r45_24, r45_25, r45_27, opn_z, opn_s, sel_z, sel_s, qCd_eq, qIf_true, qIf_false, qBl_eq, qRes_val, qNot_bool, qLss_int, qAdd_int, qSub_int, h', decide_true, p1, p2, x1, x2, ld, hd1, hc, Bool.not_true, hw]
        refine hk (l.length - (i + 1)) _ _ (by omega) ⟨i + 1, _, _, _, _, _, _, _, _, _, _, _, _, _, _, _, _, _, _, _, rfl, h, ?_, rfl, x5⟩
        intro v hv
        rw [take_succ' (List.getElem?_eq_getElem h)] at hv
        rcases List.mem_append.1 hv with hv | hv
        · exact hall v hv
        · obtain rfl := List.mem_singleton.1 hv
          exact hb
    · have h' : ¬ (i : Int) < (l.length : Int) := by omega
      have hi' : i = l.length := by omega
      subst hi'
      rw [List.take_length] at hall
      simp -implicitDefEqProofs only [l45_5, r45_23, opn_z, opn_s, sel_z, sel_s, qCd_eq, qIf_false, qBl_eq, qLss_int, h', decide_false]
      exact hyes (List.all_eq_true.2 hall) H' kp' _ _ _ _ _ _ _ _ _ _ _ _ _ _ _ _ _ _ _ _ _ _ _
  · exact ⟨0, _, _, _, _, _, _, _, _, _, _, _, _, _, _, _, _, _, _, _, rfl, by omega, by simp, rfl, kp⟩
end T
