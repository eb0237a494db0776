import Derived.Test.YtclfgabimjmebaaS16
set_option linter.all false
set_option linter.unusedVariables false
set_option linter.unusedSimpArgs false
namespace Go.Aes
open Go.RowKit

/-! ### heaps held against each other -/
def beqP : List (AV × AV) → List (AV × AV) → Bool
  | [], [] => true
  | a :: r, b :: r' => beqV a.1 b.1 && beqV a.2 b.2 && beqP r r'
  | _, _ => false
theorem beqP_sound : ∀ a b : List (AV × AV), beqP a b = true → a = b
  | [], b, h => by cases b <;> simp [beqP] at h; rfl
  | x :: r, b, h => by
    cases b with
    | nil => simp [beqP] at h
    | cons y r' =>
      simp only [beqP, Bool.and_eq_true] at h
      have h1 := beqV_sound _ _ h.1.1
      have h2 := beqV_sound _ _ h.1.2
      rw [beqP_sound _ _ h.2]
      cases x; cases y
      simp only at h1 h2
      rw [h1, h2]
def beqO : AO → AO → Bool
  | .cells a, .cells b => beqVs a b
  | .obj t k a, .obj t' k' b => t.beq t' && k.beq k' && beqVs a b
  | .map a, .map b => beqP a b
  | .iter r p, .iter r' p' => eqL r r' && p.beq p'
  | .tok, .tok => true
  | _, _ => false
theorem beqO_sound (a b : AO) (h : beqO a b = true) : a = b := by
  cases a <;> cases b <;> simp [beqO, eqL_spec] at h
  · rw [beqVs_sound _ _ h]
  · rw [h.1.1, h.1.2, beqVs_sound _ _ h.2]
  · rw [beqP_sound _ _ h]
  · rw [h.1, h.2]
  · rfl
def beqOo : Option AO → Option AO → Bool
  | none, none => true
  | some a, some b => beqO a b
  | _, _ => false
theorem beqOo_sound (a b : Option AO) (h : beqOo a b = true) : a = b := by
  cases a <;> cases b <;> simp [beqOo] at h
  · rfl
  · rw [beqO_sound _ _ h]
def beqTr : Tr AO → Tr AO → Bool
  | .leaf, .leaf => true
  | .node v l r, .node v' l' r' => beqOo v v' && beqTr l l' && beqTr r r'
  | _, _ => false
theorem beqTr_sound : ∀ a b : Tr AO, beqTr a b = true → a = b
  | .leaf, b, h => by cases b <;> simp [beqTr] at h; rfl
  | .node v l r, b, h => by
    cases b with
    | leaf => simp [beqTr] at h
    | node v' l' r' =>
      simp only [beqTr, Bool.and_eq_true] at h
      rw [beqOo_sound _ _ h.1.1, beqTr_sound _ _ h.1.2, beqTr_sound _ _ h.2]
def beqH : AH → AH → Bool
  | .tr h n, .tr h' n' => beqTr h h' && n.beq n'
  | _, _ => false
theorem beqH_sound (a b : AH) (h : beqH a b = true) : a = b := by
  cases a <;> cases b <;> simp [beqH] at h
  rw [beqTr_sound _ _ h.1, h.2]

/-! ### a choice that is left open: both ways, one outcome -/
def isTwo (ops : Array Oper) : Bool :=
  ops.size.beq 4 && decide (Region.ready .any ops #[false, false, false, false] = [0]) && decide (Region.ready .any ops #[true, false, false, false] = [1, 2]) && decide (Region.ready .any ops #[true, true, false, false] = [2]) &&
    decide (Region.ready .any ops #[true, false, true, false] = [1]) && decide (Region.ready .any ops #[true, true, true, false] = [3]) && decide (Region.ready .any ops #[true, true, true, true] = [])

section
variable {X : Cx} {P : Program} {B : Nat} {W : World} {C : CallF}

theorem op_wp (ok : CxOk X P) (hc : CallOk P B W C) {f nt : Nat} (hnt : nt < 2 ^ 39) {ops : Array Oper} {i : Nat} {o : Oper} (hi : ops[i]? = some o) {s s1 : St} {K : KC} {a : Act} {w : World} {Q : Exit → Act → World → Prop} {Kc : Act → World → Prop}
    (h : aops X C f nt ops.toList [o] s = some (.normal, s1)) (rf : RF K nt s.fr a) (hw : RW B W K s.H w)
    (k : ∀ K' a' w', Fits K s.H K' s1.H → RF K' nt s1.fr a' → RW B W K' s1.H w' → Kc a' w') : wpOp P ops Q i Kc a w := by
  simp only [aops] at h
  cases hd : dstOk nt o.dst with
  | false => simp [hd] at h
  | true =>
    simp only [hd, Bool.not_true, cond_false] at h
    have hwant := rf.wanted ops o
    unfold wpOp
    simp only [hi]
    rw [hwant]
    cases hwb : wantedB s.fr ops.toList o with
    | false =>
      simp only [hwb, cond_false, Option.some.injEq, Prod.mk.injEq, true_and] at h
      subst h
      simp only [Bool.false_eq_true, if_false]
      exact k K _ w (.refl K s.H) (rf.put hnt hd .undef) hw
    | true =>
      simp only [hwb, cond_true] at h
      simp only [if_true]
      cases hin : inst X f s.fr o with
      | none => simp [hin] at h
      | some i =>
        simp only [hin] at h
        cases hex : exec X C i s.H with
        | none => simp [hex] at h
        | some res =>
          refine .inl (exec_wp ok hc hex (inst_sim ok hin rf) hw ?_ ?_)
          · intro v H2 v' K' w' hr f1 hv hw'
            subst hr
            simp only [hex, Option.some.injEq, Prod.mk.injEq, true_and] at h
            subst h
            exact k K' _ w' f1 ((rf.mono f1.le).put hnt hd hv) hw'
          · intro v H2 v' K' w' hr f1 hv hw'
            subst hr
            simp [hex] at h

/-- an order of three behind the first -/
def three (X : Cx) (C : CallF) (f nt : Nat) (all : List Oper) (a b c : Oper) (s : St) : Option St :=
  match aops X C f nt all [a] s with
  | some (.normal, s) => match aops X C f nt all [b] s with
    | some (.normal, s) => match aops X C f nt all [c] s with
      | some (.normal, s) => some s
      | _ => none
    | _ => none
  | _ => none

theorem three_wp (ok : CxOk X P) (hc : CallOk P B W C) {f nt : Nat} (hnt : nt < 2 ^ 39) {ops : Array Oper} {i j k : Nat} {a b c : Oper} (hi : ops[i]? = some a) (hj : ops[j]? = some b) (hk : ops[k]? = some c) {s s' : St} {K : KC} {ac : Act} {w : World}
    {Q : Exit → Act → World → Prop} {Kc : Act → World → Prop} {K1 K2 : Act → World → Prop} (h : three X C f nt ops.toList a b c s = some s') (rf : RF K nt s.fr ac) (hw : RW B W K s.H w)
    (e1 : ∀ a w, wpOp P ops Q j K2 a w → K1 a w) (e2 : ∀ a w, wpOp P ops Q k Kc a w → K2 a w)
    (kk : ∀ K' a' w', Fits K s.H K' s'.H → RF K' nt s'.fr a' → RW B W K' s'.H w' → Kc a' w') : wpOp P ops Q i K1 ac w := by
  unfold three at h
  split at h
  · rename_i s1 h1
    split at h
    · rename_i s2 h2
      split at h
      · rename_i s3 h3
        injection h with h
        subst h
        refine op_wp ok hc hnt hi h1 rf hw fun K1' a1 w1 f1 r1 q1 => e1 _ _ ?_
        refine op_wp ok hc hnt hj h2 r1 q1 fun K2' a2 w2 f2 r2 q2 => e2 _ _ ?_
        exact op_wp ok hc hnt hk h3 r2 q2 fun K3' a3 w3 f3 r3 q3 => kk K3' a3 w3 ((f1.trans f2).trans f3) r3 q3
      · cases h
    · cases h
  · cases h

theorem Fits.kill {K K' : KC} {H H' : AH} (f : Fits K H K' H') (i : Nat) : Fits K H K' (H'.set i none) := ⟨f.le, by rw [AH.nx_set]; exact f.nx, f.old⟩

/-- the region's both ways, and what comes behind -/
def two (X : Cx) (C : CallF) (f nt lf : Nat) (ops : Array Oper) (c : Code) (s : St) : Option AH :=
  match ops.toList with
  | [o0, o1, o2, o3] => bif !isTwo ops then none else
    match aops X C f nt ops.toList [o0] s with
    | some (.normal, s0) => match three X C f nt ops.toList o1 o2 o3 s0, three X C f nt ops.toList o2 o1 o3 s0 with
      | some sA, some sB => match acode X C f nt lf c sA, acode X C f nt lf c sB with
        | some (.normal, s1), some (.normal, s2) => bif s.H.okI s.H.nx && beqH (s1.H.set s.H.nx none) (s2.H.set s.H.nx none) then some (s2.H.set s.H.nx none) else none
        | _, _ => none
      | _, _ => none
    | _ => none
  | _ => none

theorem okI_kill {H : AH} {i : Nat} (h : i < H.nx) (hb : H.okI i = true) : H.okI i = true := hb

theorem two_wp (ok : CxOk X P) (hc : CallOk P B W C) {f nt lf id : Nat} (hnt : nt < 2 ^ 39) {ops : Array Oper} {c : Code} (hk : codeOk c = true) {s : St} {H' : AH} {K : KC} {a : Act} {w : World} {Q : Exit → Act → World → Prop}
    (h : two X C f nt lf ops c s = some H') (rf : RF K nt s.fr a) (hw : RW B W K s.H w)
    (fin : ∀ K' a' w', Fits K s.H K' H' → a'.defers = [] → RW B W K' H' w' → Q .normal a' w') : (Code.seq (.region id ops true) c).wp P Q a w := by
  unfold two at h
  split at h
  · rename_i o0 o1 o2 o3 hops
    cases ht : isTwo ops with
    | false => simp [ht] at h
    | true =>
      simp only [ht, Bool.not_true, cond_false] at h
      split at h
      · rename_i s0 h0
        split at h
        · rename_i sA sB hA hB
          split at h
          · rename_i s1 s2 e1 e2
            cases hcond : (s.H.okI s.H.nx && beqH (s1.H.set s.H.nx none) (s2.H.set s.H.nx none)) with
            | false => simp [hcond] at h
            | true =>
              simp only [hcond, cond_true, Option.some.injEq] at h
              simp only [Bool.and_eq_true] at hcond
              have heq := beqH_sound _ _ hcond.2
              have g0 : ops[0]? = some o0 := by rw [← Array.getElem?_toList, hops]; rfl
              have g1 : ops[1]? = some o1 := by rw [← Array.getElem?_toList, hops]; rfl
              have g2 : ops[2]? = some o2 := by rw [← Array.getElem?_toList, hops]; rfl
              have g3 : ops[3]? = some o3 := by rw [← Array.getElem?_toList, hops]; rfl
              unfold isTwo at ht
              simp only [Bool.and_eq_true, decide_eq_true_eq] at ht
              obtain ⟨⟨⟨⟨⟨⟨t0, t1⟩, t2⟩, t3⟩, t4⟩, t5⟩, t6⟩ := ht
              have hsz : ops.size = 4 := by simpa using t0
              refine wp_seq (wp_region_any ok.mixed ?_)
              rw [hsz]
              have last : ∀ (sX s' : St) (K1 : KC) (a1 : Act) (w1 : World), acode X C f nt lf c sX = some (.normal, s') → Fits K s.H K1 sX.H → RF K1 nt sX.fr a1 → RW B W K1 sX.H w1 → s'.H.okI s.H.nx = true → s'.H.set s.H.nx none = H' →
                  c.wp P Q a1 w1 := by
                intro sX s' K1 a1 w1 hx fx rx qx hok hs
                refine acode_wp ok hc hnt c hk sX s' .normal K1 a1 w1 Q hx rx qx (fun K' a' w' v' f1 rf1 rw1 _ => ?_)
                rw [← hs] at fin
                exact fin K' a' w' ((fx.trans f1).kill _) rf1.defers (rw1.kill hok)
              have hokH : ∀ (H1 : AH) {s' : St}, s'.H = H1 → H1.okI s.H.nx = true → s'.H.okI s.H.nx = true := fun H1 s' e hh => by rw [e]; exact hh
              have okAll : ∀ H1 : AH, (∃ h n, H1 = .tr h n) → s.H.okI s.H.nx = true → H1.okI s.H.nx = true := by
                rintro H1 ⟨hh, n, rfl⟩ hs
                cases hsH : s.H with
                | tr a b => rw [hsH] at hs; exact hs
                | fn a b p => rw [hsH] at hs; simp [AH.okI, AH.nx] at hs
              have isTr : ∀ (H1 H2 : AH) (i : Nat), beqH (H1.set i none) (H2.set i none) = true → (∃ h n, H1 = .tr h n) ∧ (∃ h n, H2 = .tr h n) := by
                intro H1 H2 i hb
                cases H1 with
                | tr a b =>
                  cases H2 with
                  | tr c d => exact ⟨⟨_, _, rfl⟩, ⟨_, _, rfl⟩⟩
                  | fn c d p =>
                    simp only [AH.set] at hb
                    split at hb <;> simp [beqH] at hb
                | fn a b p =>
                  simp only [AH.set] at hb
                  split at hb <;> (cases H2 <;> simp only [] at hb <;> (try split at hb) <;> simp [beqH] at hb)
              obtain ⟨trA, trB⟩ := isTr _ _ _ hcond.2
              have ok1 := okAll _ trA hcond.1
              have ok2 := okAll _ trB hcond.1
              have r0 : Array.replicate 4 false = #[false, false, false, false] := rfl
              rw [r0]
              refine ⟨fun e => (by rw [t1] at e; cases e), fun i hi => ?_⟩
              rw [t1, List.mem_singleton] at hi
              subst hi
              refine op_wp ok hc hnt g0 h0 rf hw.drew fun K0 a0 w0 f0 rf0 rw0 => ?_
              refine ⟨fun e => (by rw [show (#[false, false, false, false] : Array Bool).setIfInBounds 0 true = #[true, false, false, false] from rfl, t2] at e; cases e), fun i hi => ?_⟩
              rw [show (#[false, false, false, false] : Array Bool).setIfInBounds 0 true = #[true, false, false, false] from rfl] at hi ⊢
              rw [t2] at hi
              have hi' : i = 1 ∨ i = 2 := by simpa using hi
              rcases hi' with rfl | rfl
              · refine three_wp ok hc hnt g1 g2 g3 hA rf0 rw0 (K2 := wpAny P .any ops (Exit.then (c.wp P Q) Q) 1 (((#[true, false, false, false] : Array Bool).setIfInBounds 1 true).setIfInBounds 2 true)) (Kc := wpAny P .any ops (Exit.then (c.wp P Q) Q) 0 ((((#[true, false, false, false] : Array Bool).setIfInBounds 1 true).setIfInBounds 2 true).setIfInBounds 3 true)) ?_ ?_ ?_
                · intro a w hh
                  refine ⟨fun e => (by rw [show (#[true, false, false, false] : Array Bool).setIfInBounds 1 true = #[true, true, false, false] from rfl, t3] at e; cases e), fun i hi => ?_⟩
                  rw [show (#[true, false, false, false] : Array Bool).setIfInBounds 1 true = #[true, true, false, false] from rfl, t3, List.mem_singleton] at hi
                  subst hi
                  exact hh
                · intro a w hh
                  refine ⟨fun e => (by rw [show (((#[true, false, false, false] : Array Bool).setIfInBounds 1 true).setIfInBounds 2 true) = #[true, true, true, false] from rfl, t5] at e; cases e), fun i hi => ?_⟩
                  rw [show (((#[true, false, false, false] : Array Bool).setIfInBounds 1 true).setIfInBounds 2 true) = #[true, true, true, false] from rfl, t5, List.mem_singleton] at hi
                  subst hi
                  exact hh
                · intro K' a' w' fA rA qA
                  refine ⟨t6, ?_⟩
                  exact last sA s1 K' a' w' e1 (f0.trans fA) rA qA ok1 (by rw [heq]; exact h)
              · refine three_wp ok hc hnt g2 g1 g3 hB rf0 rw0 (K2 := wpAny P .any ops (Exit.then (c.wp P Q) Q) 1 (((#[true, false, false, false] : Array Bool).setIfInBounds 2 true).setIfInBounds 1 true)) (Kc := wpAny P .any ops (Exit.then (c.wp P Q) Q) 0 ((((#[true, false, false, false] : Array Bool).setIfInBounds 2 true).setIfInBounds 1 true).setIfInBounds 3 true)) ?_ ?_ ?_
                · intro a w hh
                  refine ⟨fun e => (by rw [show (#[true, false, false, false] : Array Bool).setIfInBounds 2 true = #[true, false, true, false] from rfl, t4] at e; cases e), fun i hi => ?_⟩
                  rw [show (#[true, false, false, false] : Array Bool).setIfInBounds 2 true = #[true, false, true, false] from rfl, t4, List.mem_singleton] at hi
                  subst hi
                  exact hh
                · intro a w hh
                  refine ⟨fun e => (by rw [show (((#[true, false, false, false] : Array Bool).setIfInBounds 2 true).setIfInBounds 1 true) = #[true, true, true, false] from rfl, t5] at e; cases e), fun i hi => ?_⟩
                  rw [show (((#[true, false, false, false] : Array Bool).setIfInBounds 2 true).setIfInBounds 1 true) = #[true, true, true, false] from rfl, t5, List.mem_singleton] at hi
                  subst hi
                  exact hh
                · intro K' a' w' fB rB qB
                  refine ⟨t6, ?_⟩
                  exact last sB s2 K' a' w' e2 (f0.trans fB) rB qB ok2 h
          · cases h
        · cases h
      · cases h
  · cases h

/-- a body that ends in such a choice, and that answers nothing -/
def run2 (X : Cx) (C : CallF) (f nt lf : Nat) : Code → St → Option AH
  | .seq a b, s => match a with
    | .region id ops true => bif isTwo ops then two X C f nt lf ops b s else
      match acode X C f nt lf a s with
      | some (.normal, s) => run2 X C f nt lf b s
      | _ => none
    | _ => match acode X C f nt lf a s with
      | some (.normal, s) => run2 X C f nt lf b s
      | _ => none
  | _, _ => none

/-- the pieces ahead of the choice are fit -/
def codeOk2 : Code → Bool
  | .seq a b => match a with
    | .region _ ops true => (bif isTwo ops then codeOk b else codeOk a && codeOk2 b)
    | _ => codeOk a && codeOk2 b
  | _ => true

theorem run2_wp (ok : CxOk X P) (hc : CallOk P B W C) {f nt lf : Nat} (hnt : nt < 2 ^ 39) : ∀ (c : Code), codeOk2 c = true → ∀ (s : St) (H' : AH) (K : KC) (a : Act) (w : World) (Q : Exit → Act → World → Prop),
    run2 X C f nt lf c s = some H' → RF K nt s.fr a → RW B W K s.H w → (∀ K' a' w', Fits K s.H K' H' → a'.defers = [] → RW B W K' H' w' → Q .normal a' w') → c.wp P Q a w := by
  intro c
  induction c with
  | seq x y ihx ihy =>
    intro hk s H' K a w Q h rf hw fin
    have plain : codeOk x = true → codeOk2 y = true → (match acode X C f nt lf x s with
        | some (.normal, s) => run2 X C f nt lf y s
        | _ => none) = some H' → (Code.seq x y).wp P Q a w := by
      intro h1 h2 h
      split at h
      · rename_i s1 hx
        refine wp_seq ?_
        refine acode_wp ok hc hnt x h1 s s1 .normal K a w _ hx rf hw (fun K' a' w' v' f1 rf1 rw1 _ => ?_)
        exact ihy h2 s1 H' K' a' w' Q h rf1 rw1 (fun K2 a2 w2 f2 d2 r2 => fin K2 a2 w2 (f1.trans f2) d2 r2)
      · cases h
    cases x with
    | region id ops draw =>
      cases draw with
      | true =>
        simp only [run2] at h
        simp only [codeOk2] at hk
        cases ht : isTwo ops with
        | true =>
          simp only [ht, cond_true] at h hk
          exact two_wp ok hc hnt hk h rf hw fin
        | false =>
          simp only [ht, cond_false] at h hk
          have hk' := Bool.and_eq_true_iff.1 hk
          exact plain hk'.1 hk'.2 h
      | false =>
        simp only [run2] at h
        simp only [codeOk2] at hk
        have hk' := Bool.and_eq_true_iff.1 hk
        exact plain hk'.1 hk'.2 h
    | _ =>
      simp only [run2] at h
      simp only [codeOk2] at hk
      have hk' := Bool.and_eq_true_iff.1 hk
      exact plain hk'.1 hk'.2 h
  | _ => intros; simp_all [run2]

/-- such a function's call, worked out -/
def body2 (X : Cx) (C : CallF) (lf g : Nat) (fn : Func) (as : List AV) (H : AH) : Option Res :=
  match fn.body with
  | none => none
  | some c =>
    let nt := max fn.ntmps as.length
    bif !nt.blt 100000 || !codeOk2 c || !fn.results.toList.isEmpty then none else
    (run2 X C g nt lf c { fr := frame as 0 .leaf, H := H }).map fun H' => .val (.tup []) H'

/-- asked first, for one function alone -/
def only (X : Cx) (C : CallF) (lf g : Nat) (fn : Func) : CallF := fun g' as H => bif g'.beq g then body2 X C lf g fn as H else none

theorem only_ok (ok : CxOk X P) (ih : CallOk P B W C) (lf g : Nat) {fn : Func} (h1 : P.funcs[g]? = some fn) (h2 : (fn.name == "runtime.NumGoroutine") = false) : CallOk P B W (only X C lf g fn) := by
  refine ⟨fun g' as H r h => ?_, fun g' as H r h K w vs hw hvs => ?_⟩
  · unfold only at h
    cases hg : g'.beq g with
    | false => rw [hg] at h; cases h
    | true =>
      rw [hg] at h
      obtain rfl : g' = g := by simpa using hg
      simp only [cond_true, body2] at h
      cases hb : fn.body with
      | none => simp [hb] at h
      | some c => exact ⟨fn, h1, h2, by simp [hb]⟩
  · unfold only at h
    cases hg : g'.beq g with
    | false => rw [hg] at h; cases h
    | true =>
      rw [hg] at h
      obtain rfl : g' = g := by simpa using hg
      simp only [cond_true, body2] at h
      cases hb : fn.body with
      | none => simp [hb] at h
      | some c =>
        simp only [hb] at h
        cases hn : (!(max fn.ntmps as.length).blt 100000 || !codeOk2 c || !fn.results.toList.isEmpty) with
        | true => rw [hn] at h; cases h
        | false =>
          rw [hn] at h
          simp only [cond_false] at h
          simp only [Bool.or_eq_false_iff, Bool.not_eq_false'] at hn
          obtain ⟨⟨hn1, hn2⟩, hn3⟩ := hn
          have hnt := blt_of hn1
          have hlen := hvs.len
          obtain ⟨H', hr, rfl⟩ := Option.map_eq_some_iff.1 h
          refine calls_of_wp h1 hb ?_
          have rf0 : RF K (max fn.ntmps as.length) (frame as 0 .leaf) { tmps := vs.toArray ++ Array.replicate (fn.ntmps - vs.toArray.size) Go.undef, defers := [] } := by
            refine ⟨by simp; omega, fun t => ?_, rfl⟩
            rw [frame_get as 0 .leaf (by omega) t, Tr.get_leaf]
            rw [Array.getD_eq_getD_getElem?]
            by_cases ht : t < as.length
            · rw [if_pos ⟨Nat.zero_le _, by omega⟩]
              simp only [Nat.sub_zero]
              have ht' : t < vs.length := by omega
              rw [Array.getElem?_append_left (by simpa using ht'), List.getElem?_eq_getElem ht]
              simp only [List.getElem?_toArray, List.getElem?_eq_getElem ht', Option.getD_some]
              exact hvs.at_ t _ _ (List.getElem?_eq_getElem ht) (List.getElem?_eq_getElem ht')
            · rw [if_neg (by omega)]
              rw [Array.getElem?_append_right (by simp; omega)]
              have : (Array.replicate (fn.ntmps - vs.toArray.size) Go.undef)[t - vs.toArray.size]?.getD Go.undef = Go.undef := by
                rw [Array.getElem?_replicate]
                split <;> rfl
              rw [this]
              exact .undef
          refine run2_wp ok ih (by omega) c hn2 _ H' K _ w _ hr rf0 hw (fun K' a' w' f1 hdf rw1 => ?_)
          refine ⟨hdf, .tuple #[], ?_, K', ?_, rw1, f1⟩
          · have he : fn.results = #[] := by
              have : fn.results.toList = [] := by simpa using hn3
              exact Array.toList_eq_nil_iff.1 this
            unfold Go.results
            rw [he, Sem.run_bind, Array.mapM_eq_mapM_toList, Sem.run_map]
            rfl
          · exact RL.tup .nil
end
end Go.Aes
