import Derived.Test.YtgmifbbimcblcaaO15c
set_option linter.all false
set_option linter.unusedVariables false
set_option linter.unusedSimpArgs false
namespace Go.Aes
open Go.RowKit

/-! ### the slots after those that are listed -/
def foldS (S : Nat → Bool) : List Evt → Fr → Fr
  | [], fr => fr
  | e :: r, fr => foldS S r (bif S e.i then putD fr e.o.dst e.v else fr)

theorem foldS_append (S : Nat → Bool) : ∀ (T1 T2 : List Evt) (fr : Fr), foldS S (T1 ++ T2) fr = foldS S T2 (foldS S T1 fr)
  | [], T2, fr => rfl
  | e :: r, T2, fr => by simp only [List.cons_append, foldS]; exact foldS_append S r T2 _

theorem putD_get {nt : Nat} (hnt : nt < 2 ^ 39) {fr : Fr} {d : Option Nat} {v : AV} (hd : dstOk nt d = true) (t : Nat) : (putD fr d v).get t = if d = some t then some v else fr.get t := by
  cases d with
  | none => simp [putD]
  | some d =>
    have hlt : d < nt := by simpa [dstOk, Nat.blt_eq] using hd
    simp only [putD, Option.some.injEq]
    rw [Tr.get_put (some v) 40 fr d t (by omega)]
    by_cases e : t = d
    · rw [if_pos e, if_pos e.symm]
    · rw [if_neg e, if_neg (Ne.symm e)]

theorem foldS_skip {S : Nat → Bool} {nt : Nat} (hnt : nt < 2 ^ 39) {t : Nat} : ∀ {T : List Evt} {fr : Fr}, (∀ e, e ∈ T → dstOk nt e.o.dst = true) → (∀ e, e ∈ T → S e.i = true → e.o.dst ≠ some t) → (foldS S T fr).get t = fr.get t
  | [], fr, _, _ => rfl
  | e :: r, fr, hd, h => by
    simp only [foldS]
    rw [foldS_skip hnt (fun x hx => hd x (List.mem_cons_of_mem _ hx)) (fun x hx => h x (List.mem_cons_of_mem _ hx))]
    cases hs : S e.i with
    | false => rfl
    | true =>
      simp only [cond_true]
      rw [putD_get hnt (hd e (by simp)) t, if_neg (h e (by simp) hs)]

theorem foldS_congr {S S' : Nat → Bool} {nt : Nat} (hnt : nt < 2 ^ 39) {t : Nat} : ∀ {T : List Evt} {fr fr' : Fr}, (∀ e, e ∈ T → dstOk nt e.o.dst = true) → (∀ e, e ∈ T → e.o.dst = some t → S e.i = S' e.i) → fr.get t = fr'.get t → (foldS S T fr).get t = (foldS S' T fr').get t
  | [], fr, fr', _, _, h => h
  | e :: r, fr, fr', hd, h, h0 => by
    simp only [foldS]
    refine foldS_congr hnt (fun x hx => hd x (List.mem_cons_of_mem _ hx)) (fun x hx => h x (List.mem_cons_of_mem _ hx)) ?_
    by_cases hdst : e.o.dst = some t
    · rw [h e (by simp) hdst]
      cases S' e.i with
      | false => exact h0
      | true => simp only [cond_true]; rw [putD_get hnt (hd e (by simp)), putD_get hnt (hd e (by simp)), if_pos hdst, if_pos hdst]
    · have key : ∀ b : Bool, ∀ f : Fr, (bif b then putD f e.o.dst e.v else f).get t = f.get t := by
        intro b f
        cases b with
        | false => rfl
        | true => simp only [cond_true]; rw [putD_get hnt (hd e (by simp)), if_neg hdst]
      rw [key, key]; exact h0

theorem Chain.fold : ∀ {T : List Evt} {s m : St}, Chain T s m → foldS (fun _ => true) T s.fr = m.fr
  | [], s, m, h => by have h' : s = m := h; subst h'; rfl
  | e :: r, s, m, h => by
    obtain ⟨h1, h2⟩ := h
    simp only [foldS, cond_true]
    have := h2.fold
    rw [← h1]
    exact this

theorem RF.congr {K : KC} {nt : Nat} {fr fr' : Fr} {a : Act} (h : RF K nt fr a) (he : ∀ t, fr.get t = fr'.get t) : RF K nt fr' a :=
  ⟨h.size, fun t => by rw [← he t]; exact h.at_ t, h.defers⟩

/-! ### what is known of the canonical order -/
structure Cn (X : Cx) (C : CallF) (f nt : Nat) (ops : Array Oper) (A : Nat → Nat → Bool) (T : List Evt) (s s' : St) : Prop where
  chain : Chain T s s'
  good : ∀ e, e ∈ T → Good X C f nt ops.toList e
  rel : T.Pairwise (Rel X)
  ord : T.Pairwise (fun e1 e2 => A e1.i e2.i = false ∧ e1.i ≠ e2.i)
  anc : ∀ e, e ∈ T → ∀ j, bit e.anc j = A e.i j
  op : ∀ e, e ∈ T → ops[e.i]? = some e.o
  full : ∀ j, j < ops.size → ∃ e, e ∈ T ∧ e.i = j
  up : ∀ e, e ∈ T → ∀ j, j < ops.size → A e.i j = true → ∃ d, d ∈ e.o.after ∧ Region.binds .any d = true ∧ (d.on = j ∨ A d.on j = true)
  dir : ∀ e, e ∈ T → ∀ d, d ∈ e.o.after → Region.binds .any d = true → A e.i d.on = true ∧ d.on < ops.size ∧ d.on ≠ e.i
  tmp : ∀ p, p ∈ T → ∀ q, q ∈ T → p.i ≠ q.i → ∀ t, p.o.dst = some t → (t ∈ looks ops.toList q.o ∨ q.o.dst = some t) → A q.i p.i = true ∨ A p.i q.i = true

theorem pairwise_mid {α : Type} {R : α → α → Prop} {l1 l2 : List α} {x : α} (h : (l1 ++ x :: l2).Pairwise R) : (∀ y, y ∈ l1 → R y x) ∧ (∀ y, y ∈ l2 → R x y) := by
  rw [List.pairwise_append] at h
  exact ⟨fun y hy => h.2.2 y hy x (by simp), (List.pairwise_cons.1 h.2.1).1⟩

theorem rgOk_spec {X : Cx} {C : CallF} {f nt : Nat} {ops : Array Oper} (h : rgOk ops.toList = true) {T : List Evt} {s s' : St}
    (hk : T.map Evt.key = plan ops.toList (ancestors ops.toList []) ops.toList.length 0) (hc : Chain T s s') (hg : ∀ e, e ∈ T → Good X C f nt ops.toList e) (hr : T.Pairwise (Rel X)) :
    Cn X C f nt ops (fun i j => bit ((ancestors ops.toList []).getD i 0) j) T s s' := by
  unfold rgOk at h
  simp only [Bool.and_eq_true] at h
  obtain ⟨⟨⟨⟨⟨h1, h2⟩, h3⟩, h4⟩, h5⟩, h6⟩ := h
  rw [← hk] at h1 h2 h3
  have hop : ∀ e, e ∈ T → ops[e.i]? = some e.o := by
    intro e he
    have : e.key ∈ plan ops.toList (ancestors ops.toList []) ops.toList.length 0 := by rw [← hk]; exact List.mem_map_of_mem he
    have := plan_spec this
    simpa [Evt.key] using this
  have hz : ∀ e, e ∈ T → (e.o, e.i) ∈ ops.toList.zipIdx := by
    intro e he
    rw [List.mem_zipIdx_iff_getElem?]
    simpa using hop e he
  have hanc : ∀ e, e ∈ T → e.anc = (ancestors ops.toList []).getD e.i 0 := by
    intro e he
    have := List.all_eq_true.1 h2 e.key (List.mem_map_of_mem he)
    simpa [Evt.key] using this
  refine ⟨hc, hg, hr, ?_, fun e he j => by rw [hanc e he], hop, ?_, ?_, ?_, ?_⟩
  · have : ∀ T : List Evt, (∀ e, e ∈ T → e.anc = (ancestors ops.toList []).getD e.i 0) → ordB (T.map Evt.key) = true → T.Pairwise (fun e1 e2 => bit ((ancestors ops.toList []).getD e1.i 0) e2.i = false ∧ e1.i ≠ e2.i) := by
      intro T
      induction T with
      | nil => intro _ _; exact .nil
      | cons e r ih =>
        intro ha hb
        simp only [List.map_cons, ordB, Bool.and_eq_true] at hb
        refine List.pairwise_cons.2 ⟨fun x hx => ?_, ih (fun y hy => ha y (List.mem_cons_of_mem _ hy)) hb.2⟩
        have := List.all_eq_true.1 hb.1 x.key (List.mem_map_of_mem hx)
        simp only [Evt.key, Bool.and_eq_true, Bool.not_eq_true'] at this
        rw [← ha e (by simp)]
        exact ⟨this.1, fun e1 => by rw [e1] at this; simp at this⟩
    exact this T hanc h1
  · intro j hj
    have := List.all_eq_true.1 h3 j (by simpa using hj)
    obtain ⟨p, hp, he⟩ := List.any_eq_true.1 this
    obtain ⟨e, h7, h8⟩ := List.mem_map.1 hp
    refine ⟨e, h7, ?_⟩
    subst h8
    simpa [Evt.key] using he
  · intro e he j hj ha
    have := List.all_eq_true.1 (List.all_eq_true.1 h4 (e.o, e.i) (hz e he)) j (by simpa using hj)
    simp only [ha, Bool.not_true, Bool.false_or] at this
    obtain ⟨d, h7, h8⟩ := List.any_eq_true.1 this
    simp only [Bool.and_eq_true, Bool.or_eq_true] at h8
    exact ⟨d, by simpa using h7, h8.1, h8.2.imp (fun h => by simpa using h) id⟩
  · intro e he d hd hb
    have := List.all_eq_true.1 (List.all_eq_true.1 h5 (e.o, e.i) (hz e he)) d (by simpa using hd)
    simp only [hb, Bool.not_true, Bool.false_or, Bool.and_eq_true, Bool.not_eq_true', Nat.blt_eq] at this
    exact ⟨this.1.1, by simpa using this.1.2, fun e1 => by rw [e1] at this; simp at this⟩
  · intro p hp q hq hne t hd hl
    have := List.all_eq_true.1 h6 (p.o, p.i) (hz p hp)
    simp only [hd] at this
    have := List.all_eq_true.1 this (q.o, q.i) (hz q hq)
    simp only [Bool.or_eq_true] at this
    rcases this with ((h7 | h7) | h7) | h7
    · have h7' : q.i = p.i := by simpa using h7
      exact absurd h7'.symm hne
    · exfalso
      rcases hl with hl | hl
      · simp [hl] at h7
      · simp [hl] at h7
    · exact .inl h7
    · exact .inr h7

end Go.Aes
