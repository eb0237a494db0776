import Derived.Test.YtnmljkjdflfdoaaDoorS1
set_option linter.all false
set_option linter.unusedVariables false
set_option linter.unusedSimpArgs false
namespace Go.Aes
open Go.RowKit

structure MonOk (R : Type) [Mon R] (Sat : R → Prop) (PP : AV → AH → Prop) : Prop where
  nf : ¬ Sat (fail : R)
  pan : ∀ v H, Sat (Mon.pan v H : R) → PP v H
  fix : ∀ (F : KT R → KT R) l H, Sat (Mon.fix F l H) → ∃ n, Sat (fixN fail F n l H)

section
variable {R : Type} [Mon R] {Sat : R → Prop} {PP : AV → AH → Prop}

theorem qO_sat (ms : MonOk R Sat PP) {α : Type} {x : Option α} {k : α → R} (h : Sat (qO x k)) : ∃ v, x = some v ∧ Sat (k v) := by
  cases x with
  | none => exact (ms.nf h).elim
  | some v => exact ⟨v, rfl, h⟩

theorem bif_sat (ms : MonOk R Sat PP) {b : Bool} {x : R} (h : Sat (bif b then x else fail)) : b = true ∧ Sat x := by
  cases b with
  | true => exact ⟨rfl, h⟩
  | false => exact (ms.nf h).elim

theorem nbif_sat (ms : MonOk R Sat PP) {b : Bool} {x : R} (h : Sat (bif b then fail else x)) : b = false ∧ Sat x := by
  cases b with
  | false => exact ⟨rfl, h⟩
  | true => exact (ms.nf h).elim

theorem qRes_sat (ms : MonOk R Sat PP) {r : Option Res} {k : AV → AH → R} (h : Sat (qRes r k)) : (∃ v H, r = some (.val v H) ∧ Sat (k v H)) ∨ ∃ v H, r = some (.panic v H) ∧ PP v H := by
  cases r with
  | none => exact (ms.nf h).elim
  | some r => cases r with
    | val v H => exact .inl ⟨v, H, rfl, h⟩
    | panic v H => exact .inr ⟨v, H, rfl, ms.pan v H h⟩

theorem qResN_sat (ms : MonOk R Sat PP) {r : Option Res} {k : AV → AH → R} (h : Sat (qResN r k)) : ∃ v H, r = some (.val v H) ∧ Sat (k v H) := by
  cases r with
  | none => exact (ms.nf h).elim
  | some r => cases r with
    | val v H => exact ⟨v, H, rfl, h⟩
    | panic v H => exact (ms.nf h).elim

theorem qHp_sat (ms : MonOk R Sat PP) {x : Option (AV × AH)} {k : AV → AH → R} (h : Sat (qHp x k)) : ∃ v H, x = some (v, H) ∧ Sat (k v H) := by
  cases x with
  | none => exact (ms.nf h).elim
  | some p => exact ⟨p.1, p.2, rfl, h⟩

/-! ### an operation's parts, with what they are in 'inst' and 'exec' -/
/-- what an instruction of the plain kind gives -/
def Gives (X : Cx) (C : CallF) (i : Option In) (H : AH) (v : AV) (H' : AH) : Prop := ∃ j, i = some j ∧ exec X C j H = some (.val v H')

/-- .. and panics -/
def Pans (X : Cx) (C : CallF) (i : Option In) (H : AH) (v : AV) (H' : AH) : Prop := ∃ j, i = some j ∧ exec X C j H = some (.panic v H')

theorem gives_val {X : Cx} {C : CallF} {H : AH} {v : AV} {x : Option AV} (h : x = some v) : Gives X C (pv x) H v H := by
  subst h; exact ⟨_, rfl, rfl⟩

theorem qNew_sat (ms : MonOk R Sat PP) {X : Cx} {C : CallF} {o : AO} {w : Wr} {H : AH} {k : AV → AH → R} (h : Sat (qNew o w H k)) : ∃ v H', Gives X C (some (.new o w)) H v H' ∧ Sat (k v H') := by
  unfold qNew at h
  cases hn : H.new o with
  | none => rw [hn] at h; exact (ms.nf h).elim
  | some p =>
    obtain ⟨i, H'⟩ := p
    rw [hn] at h
    exact ⟨_, _, ⟨_, rfl, by simp [exec, v2, hn]⟩, h⟩

theorem cellsK_sat (ms : MonOk R Sat PP) {x : Option AO} {k : List AV → R} (h : Sat (cellsK x k)) : ∃ cs, (x = some (.cells cs) ∨ ∃ t j, x = some (.obj t j cs)) ∧ Sat (k cs) := by
  unfold cellsK at h
  cases x with
  | none => exact (ms.nf h).elim
  | some o => cases o with
    | cells cs => exact ⟨cs, .inl rfl, h⟩
    | obj t j cs => exact ⟨cs, .inr ⟨t, j, rfl⟩, h⟩
    | _ => exact (ms.nf h).elim

theorem cellsC_sat (ms : MonOk R Sat PP) {x : Option AO} {k : List AV → R} (h : Sat (cellsC x k)) : ∃ cs, x = some (.cells cs) ∧ Sat (k cs) := by
  unfold cellsC at h
  cases x with
  | none => exact (ms.nf h).elim
  | some o => cases o with
    | cells cs => exact ⟨cs, rfl, h⟩
    | _ => exact (ms.nf h).elim

theorem stK_sat (ms : MonOk R Sat PP) {x : Option AO} {o : Nat} {vs : List AV} {k : AO → R} (h : Sat (stK x o vs k)) :
    ∃ cs cs', setRange cs o vs = some cs' ∧ ((x = some (.cells cs) ∧ Sat (k (.cells cs'))) ∨ ∃ t j, j.ble 1 = true ∧ x = some (.obj t j cs) ∧ Sat (k (.obj t j cs'))) := by
  unfold stK at h
  cases x with
  | none => exact (ms.nf h).elim
  | some ob => cases ob with
    | cells cs => obtain ⟨cs', h1, h2⟩ := qO_sat ms h; exact ⟨cs, cs', h1, .inl ⟨rfl, h2⟩⟩
    | obj t j cs => obtain ⟨h0, h⟩ := bif_sat ms h; obtain ⟨cs', h1, h2⟩ := qO_sat ms h; exact ⟨cs, cs', h1, .inr ⟨t, j, h0, rfl, h2⟩⟩
    | _ => exact (ms.nf h).elim

theorem natK_sat (ms : MonOk R Sat PP) {x : AV} {k : Nat → R} (h : Sat (natK x k)) : ∃ n, asN x = some n ∧ Sat (k n) := by
  unfold natK at h
  cases x with
  | int kd n =>
    obtain ⟨h1, h2⟩ := bif_sat ms h
    exact ⟨n.toNat, by simp [asN, h1], h2⟩
  | _ => exact (ms.nf h).elim

theorem w2_sat (ms : MonOk R Sat PP) {x y : Option AV} {k : AV → AV → R} (h : Sat (w2 x y k)) : ∃ a b, x = some a ∧ y = some b ∧ Sat (k a b) := by
  obtain ⟨a, h1, h⟩ := qO_sat ms h
  obtain ⟨b, h2, h⟩ := qO_sat ms h
  exact ⟨a, b, h1, h2, h⟩

/-- a known list of cells, read -/
theorem hLoad_sat (ms : MonOk R Sat PP) {X : Cx} {t : Nat} {a : AV} {H : AH} {k : AV → R} (h : Sat (hLoad X t a H k)) : ∃ v, loadAt X t a H = some v ∧ Sat (k v) := by
  unfold hLoad at h
  obtain ⟨ag, h1, h⟩ := qO_sat ms h
  obtain ⟨n, h2, h⟩ := qO_sat ms h
  unfold loadAt
  rw [h1, h2]
  simp only []
  cases ag with
  | true =>
    simp only [cond_true, gB_true] at h
    cases a <;> first | exact (ms.nf h).elim | skip
    case ptr i o =>
      obtain ⟨cs, h3, h⟩ := cellsK_sat ms h
      obtain ⟨l, h4, h⟩ := qO_sat ms h
      rcases h3 with h3 | ⟨t', j', h3⟩ <;> exact ⟨_, by simp [h3, loadFrom, h4], h⟩
    case vptr r o =>
      obtain ⟨l, h4, h⟩ := qO_sat ms h
      exact ⟨_, by simp [loadFrom, h4], h⟩
  | false =>
    simp only [cond_false, gB_false] at h
    cases a <;> first | exact (ms.nf h).elim | skip
    case ptr i o =>
      obtain ⟨cs, h3, h⟩ := cellsK_sat ms h
      obtain ⟨l, h4, h⟩ := qO_sat ms h
      rcases h3 with h3 | ⟨t', j', h3⟩ <;> exact ⟨_, by simp [h3, loadFrom, h4], h⟩
    case vptr r o =>
      obtain ⟨l, h4, h⟩ := qO_sat ms h
      exact ⟨_, by simp [loadFrom, h4], h⟩

theorem hStore_sat (ms : MonOk R Sat PP) {X : Cx} {C : CallF} {t : Nat} {a v : AV} {H : AH} {k : AV → AH → R} (h : Sat (hStore X t a v H k)) : ∃ u H', exec X C (.store t a v) H = some (.val u H') ∧ Sat (k u H') := by
  unfold hStore at h
  obtain ⟨n, h1, h⟩ := qO_sat ms h
  unfold qSt at h
  cases a <;> first | exact (ms.nf h).elim | skip
  rename_i i o
  obtain ⟨hb, h⟩ := bif_sat ms h
  obtain ⟨cs, cs', h4, h⟩ := stK_sat ms h
  simp only [Bool.and_eq_true] at hb
  obtain ⟨⟨b1, b2⟩, b3⟩ := hb
  rcases h with ⟨h3, h⟩ | ⟨t', j', h0, h3, h⟩
  · exact ⟨_, _, by simp [exec, u1, storeAt, h1, b1, b2, b3, h3, h4], h⟩
  · exact ⟨_, _, by simp [exec, u1, storeAt, h1, b1, b2, b3, h3, h4, h0], h⟩

theorem qFa_sat (ms : MonOk R Sat PP) {off : Nat} {a : AV} {k : AV → R} (h : Sat (qFa off a k)) : ∃ v, (match a with
    | .ptr i o => some (.ptr i (o + off))
    | .vptr r o => some (.vptr r (o + off))
    | _ => none) = some v ∧ Sat (k v) := by
  unfold qFa at h
  cases a <;> first | exact (ms.nf h).elim | exact ⟨_, rfl, h⟩

theorem hField_sat (ms : MonOk R Sat PP) {X : Cx} {t f : Nat} {x : AV} {k : AV → R} (h : Sat (hField X t x f k)) : ∃ v, fieldAt X t x f = some v ∧ Sat (k v) := by
  unfold hField at h
  unfold fieldAt
  split at h
  · rename_i fs hu
    obtain ⟨fd, h1, h⟩ := qO_sat ms h
    obtain ⟨n, h2, h⟩ := qO_sat ms h
    obtain ⟨h3, h⟩ := nbif_sat ms h
    obtain ⟨v, h4, h⟩ := qFa_sat ms h
    exact ⟨v, by simp only [hu, h1, h2, h3, cond_false]; exact h4, h⟩
  · exact (ms.nf h).elim

theorem hIa_sat (ms : MonOk R Sat PP) {X : Cx} {t : Nat} {x i : AV} {k : AV → R} (h : Sat (hIa X t x i k)) : ∃ v, indexAt X t x i = some v ∧ Sat (k v) := by
  unfold hIa at h
  unfold indexAt
  split at h
  · rename_i e hu
    obtain ⟨n, h1, h⟩ := qO_sat ms h
    unfold qIa at h
    obtain ⟨j, h2, h⟩ := natK_sat ms h
    cases x <;> first | exact (ms.nf h).elim | skip
    · obtain ⟨r, h3, h⟩ := qO_sat ms h
      obtain ⟨h4, h⟩ := bif_sat ms h
      exact ⟨_, by simp only [hu, h1, h2, h3, h4, cond_true], h⟩
    · obtain ⟨h4, h⟩ := bif_sat ms h
      exact ⟨_, by simp only [hu, h1, h2, h4, cond_true], h⟩
  · rename_i len e hu
    obtain ⟨n, h1, h⟩ := qO_sat ms h
    unfold qIaA at h
    obtain ⟨j, h2, h⟩ := natK_sat ms h
    obtain ⟨h3, h⟩ := bif_sat ms h
    cases x <;> first | exact (ms.nf h).elim | exact ⟨_, by simp only [hu, h1, h2, h3, cond_true], h⟩
  · exact (ms.nf h).elim

theorem hIx_sat (ms : MonOk R Sat PP) {X : Cx} {t : Nat} {x i : AV} {k : AV → R} (h : Sat (hIx X t x i k)) : ∃ v, indexOf X t x i = some v ∧ Sat (k v) := by
  unfold hIx at h
  split at h
  · rename_i hu
    unfold qIx at h
    obtain ⟨j, h2, h⟩ := natK_sat ms h
    cases x <;> first | exact (ms.nf h).elim | skip
    obtain ⟨b, h3, h⟩ := qO_sat ms h
    exact ⟨_, by simp only [indexOf, hu, h2, h3], h⟩
  · exact qO_sat ms h

theorem hPart_sat (ms : MonOk R Sat PP) {X : Cx} {t f : Nat} {x : AV} {k : AV → R} (h : Sat (hPart X t x f k)) : ∃ v, fieldOf X t x f = some v ∧ Sat (k v) := by
  unfold hPart at h
  split at h
  · rename_i fs hu
    obtain ⟨fd, h1, h⟩ := qO_sat ms h
    obtain ⟨ag, h2, h⟩ := qO_sat ms h
    obtain ⟨n, h3, h⟩ := qO_sat ms h
    cases ag with
    | true =>
      simp only [cond_true, qPartA] at h
      cases x <;> first | exact (ms.nf h).elim | skip
      exact ⟨_, by simp only [fieldOf, hu, h1, part, h2, h3], h⟩
    | false =>
      simp only [cond_false, qPart] at h
      cases x <;> first | exact (ms.nf h).elim | skip
      obtain ⟨b, h4, h⟩ := qO_sat ms h
      exact ⟨_, by simp only [fieldOf, hu, h1, part, h2, h3]; exact h4, h⟩
  · exact (ms.nf h).elim

theorem qNc_sat (ms : MonOk R Sat PP) {x : AV} {k : AV → R} (h : Sat (qNc x k)) : (match x with
    | .ptr i o => some (In.val (.ptr i o))
    | .vptr r o => some (.val (.vptr r o))
    | .fn (.func g) a b => some (.val (.fn (.func g) a b))
    | _ => none) = some (.val x) ∧ Sat (k x) := by
  unfold qNc at h
  cases x <;> first | exact (ms.nf h).elim | exact ⟨rfl, h⟩ | skip
  rename_i f a b
  cases f <;> first | exact (ms.nf h).elim | exact ⟨rfl, h⟩

theorem ints_sat (ms : MonOk R Sat PP) {x y : AV} {k : IntKind → Int → Int → R} {e : R} (h : Sat (intsK x y k e)) :
    (∃ a m n, x = .int a m ∧ y = .int a n ∧ Sat (k a m n)) ∨ Sat e := by
  unfold intsK at h
  cases x <;> first | exact .inr h | skip
  cases y <;> first | exact .inr h | skip
  rename_i a m b n
  obtain ⟨h1, h2⟩ := bif_sat ms h
  have := of_decide_eq_true h1
  subst this
  exact .inl ⟨_, _, _, rfl, rfl, h2⟩

theorem hBin_sat (ms : MonOk R Sat PP) {X : Cx} {op : BinOp} {t : Nat} {x y : AV} {k : AV → R} (h : Sat (hBin X op t x y k)) : ∃ v, binop X op t x y = some v ∧ Sat (k v) := by
  cases op <;> first | exact qO_sat ms h | skip
  all_goals
    simp only [hBin] at h
    first | unfold qLss at h | unfold qLeq at h | unfold qGtr at h | unfold qGeq at h | unfold qEql at h | unfold qNeq at h | unfold qAdd at h | unfold qSub at h | unfold qMul at h | unfold qQuo at h | unfold qRem at h
    rcases ints_sat ms h with ⟨a, m, n, rfl, rfl, h2⟩ | h2
    · first
        | (refine ⟨_, ?_, h2⟩; simp [binop, Go.binOp, ofSem, Op.intCmp, Op.intArith]; rfl)
        | (obtain ⟨h3, h4⟩ := nbif_sat ms h2
           refine ⟨_, ?_, h4⟩
           have h5 : ¬ n = 0 := of_decide_eq_false h3
           simp [binop, Go.binOp, ofSem, Op.intDiv, h5]; rfl)
    · exact qO_sat ms h2

theorem hUn_sat (ms : MonOk R Sat PP) {op : UnOp} {x : AV} {k : AV → R} (h : Sat (hUn op x k)) : ∃ v, (match scal x with
    | some a => ofSem (Op.unary op a)
    | none => none) = some v ∧ Sat (k v) := by
  have key : Sat (qUn op x k) → ∃ v, (match scal x with
    | some a => ofSem (Op.unary op a)
    | none => none) = some v ∧ Sat (k v) := by
    intro h
    unfold qUn at h
    split at h
    · rename_i a ha
      obtain ⟨v, h1, h⟩ := qO_sat ms h
      exact ⟨v, by simp only [ha]; exact h1, h⟩
    · exact (ms.nf h).elim
  cases op <;> first | exact key h | skip
  simp only [hUn, qNot] at h
  cases x <;> first | exact (ms.nf h).elim | skip
  exact ⟨_, rfl, h⟩

theorem fillP_eq {place : Nat → Option (Nat × Nat)} : ∀ {l : List (Nat × AV)} {ps : List (Nat × Nat × AV)} {z : List AV}, places place l = some ps → fill place z l = fillP z ps
  | [], ps, z, h => by simp [places] at h; subst h; rfl
  | p :: r, ps, z, h => by
    obtain ⟨i, v⟩ := p
    simp only [places] at h
    cases h1 : place i with
    | none => simp [h1] at h
    | some q =>
      obtain ⟨o, n⟩ := q
      simp only [h1] at h
      cases h2 : places place r with
      | none => simp [h2] at h
      | some l =>
        simp only [h2, Option.some.injEq] at h
        subst h
        simp only [fill, fillP, h1]
        cases hc : (v.cells.length.beq n && allOne v.cells) with
        | false => rfl
        | true =>
          simp only [cond_true]
          cases hs : setRange z o v.cells with
          | none => rfl
          | some cs => exact fillP_eq h2

theorem hBuild_sat (ms : MonOk R Sat PP) {X : Cx} {t : Nat} {l : List (Nat × AV)} {k : AV → R} (h : Sat (hBuild X t l k)) : ∃ v, build X t l = some v ∧ Sat (k v) := by
  unfold hBuild at h
  obtain ⟨z, h1, h⟩ := qO_sat ms h
  obtain ⟨pl, h2, h⟩ := qO_sat ms h
  obtain ⟨ps, h3, h⟩ := qO_sat ms h
  obtain ⟨cs, h4, h⟩ := qO_sat ms h
  refine ⟨.agg cs, ?_, h⟩
  unfold build
  rw [h1]
  unfold placeOf at h2
  split at h2
  · rename_i fs hu
    injection h2 with h2
    subst h2
    have h5 := fillP_eq (z := z) h3
    simp only [hu]
    exact (congrArg (Option.map AV.agg) h5).trans (by rw [h4]; rfl)
  · rename_i n e hu
    cases hs : X.size e with
    | none => simp [hs] at h2
    | some n =>
      simp only [hs, Option.some.injEq] at h2
      subst h2
      have h5 := fillP_eq (z := z) h3
      simp only [hu, hs]
      exact (congrArg (Option.map AV.agg) h5).trans (by rw [h4]; rfl)
  · cases h2

theorem hRows_sat (ms : MonOk R Sat PP) {X : Cx} {C : CallF} {t len : Nat} {parts : List (Nat × AV)} {hm : Bool} {H : AH} {k : AV → AH → R} (h : Sat (hRows X t len parts hm H k)) :
    ∃ v H', Gives X C (buildSlice X t len parts hm) H v H' ∧ Sat (k v H') := by
  unfold hRows at h
  unfold buildSlice
  split at h
  · rename_i e hu
    obtain ⟨z, h1, h⟩ := qO_sat ms h
    obtain ⟨n, h2, h⟩ := qO_sat ms h
    obtain ⟨h3, h⟩ := bif_sat ms h
    simp only [hu, h1, h2, h3, cond_true]
    cases hm with
    | true =>
      simp only [cond_true, gB_true] at h
      obtain ⟨rows, h4, h⟩ := qO_sat ms h
      simp only [h4, cond_true]
      exact qNew_sat ms h
    | false =>
      simp only [cond_false, gB_false] at h
      obtain ⟨rows, h4, h⟩ := qO_sat ms h
      simp only [h4, cond_false]
      exact ⟨_, _, ⟨_, rfl, rfl⟩, h⟩
  · exact (ms.nf h).elim

theorem hConv_sat (ms : MonOk R Sat PP) {X : Cx} {C : CallF} {s d : Nat} {x : AV} {H : AH} {k : AV → R} (h : Sat (hConv X s d x H k)) :
    ∃ v, Gives X C (match conv X s d x with
      | some v => some (.val v)
      | none => match X.und s, X.und d with
        | some (.slice e), some .string => match X.und e with
          | some (.int .u8) => bif isSl x then some (.bstr x) else none
          | _ => none
        | _, _ => none) H v H ∧ Sat (k v) := by
  unfold hConv at h
  split at h
  · rename_i us ud hus hud
    split at h
    · rename_i kd
      unfold qConvI at h
      cases x <;> first | exact (ms.nf h).elim | skip
      exact ⟨_, ⟨_, by simp [conv, hus, hud]; rfl, rfl⟩, h⟩
    · split at h
      · rename_i e
        split at h
        · rename_i hue
          unfold qBstr at h
          obtain ⟨h1, h⟩ := bif_sat ms h
          obtain ⟨rows, h2, h⟩ := qO_sat ms h
          obtain ⟨st, h3, h⟩ := qO_sat ms h
          refine ⟨_, ⟨.bstr x, ?_, ?_⟩, h⟩
          · have : conv X s d x = none := by
              cases x <;> simp [isSl] at h1 <;> simp [conv, hus, hud]
            rw [this]
            simp only [hus, hud, hue, h1, cond_true]
          · simp [exec, h1, v1, h2, h3]
        · exact (ms.nf h).elim
      · obtain ⟨v, h1, h⟩ := qO_sat ms h
        exact ⟨v, ⟨.val v, by rw [h1], rfl⟩, h⟩
    · exact (ms.nf h).elim
  · exact (ms.nf h).elim

theorem sliceD_eq {X : Cx} {t sz : Nat} {d : TypeDesc} {x : AV} {lo hi mx : Option AV} {v : AV} (hu : X.und t = some d) (hs : elemSz X d = some sz) (h : sliceD d sz x lo hi mx = some v) : sliceOp X t x lo hi mx = some v := by
  unfold sliceD at h
  unfold sliceOp
  rw [hu]
  split at h
  · exact h
  · simp only [elemSz] at hs
    simp only [hs]
    exact h
  · rename_i e i o n c sz' g
    simp only [elemSz] at hs
    cases mx with
    | some m => cases h
    | none =>
      simp only [hs] at h ⊢
      exact h
  · rename_i n e i o
    simp only [elemSz] at hs
    cases mx with
    | some m => cases h
    | none =>
      simp only [hs] at h ⊢
      exact h
  · cases h

theorem hSlc_sat (ms : MonOk R Sat PP) {X : Cx} {t : Nat} {x : AV} {lo hi mx : Option AV} {k : AV → R} (h : Sat (hSlc X t x lo hi mx k)) : ∃ v, sliceOp X t x lo hi mx = some v ∧ Sat (k v) := by
  unfold hSlc at h
  obtain ⟨d, h1, h⟩ := qO_sat ms h
  obtain ⟨sz, h2, h⟩ := qO_sat ms h
  obtain ⟨v, h3, h⟩ := qO_sat ms h
  exact ⟨v, sliceD_eq h1 h2 h3, h⟩

theorem hCallB_sat (ms : MonOk R Sat PP) {X : Cx} {C : CallF} {hm : Bool} {b : Builtin} {ts : List Nat} {as : List AV} {H : AH} {k : AV → AH → R} (h : Sat (hCallB X hm b ts as H k)) :
    ∃ v H', Gives X C (callB X hm b ts as) H v H' ∧ Sat (k v H') := by
  unfold hCallB at h
  split at h
  · split at h
    · rename_i t x
      split at h
      · rename_i hu
        unfold qLenS at h
        cases x <;> first | exact (ms.nf h).elim | skip
        exact ⟨_, _, ⟨_, by simp only [callB, hu]; rfl, rfl⟩, h⟩
      · rename_i e hu
        unfold qLenL at h
        cases x <;> first | exact (ms.nf h).elim | exact ⟨_, _, ⟨_, by simp only [callB, hu]; rfl, rfl⟩, h⟩
      · rename_i kt e hu
        unfold qMlen at h
        cases x <;> first | exact (ms.nf h).elim | skip
        rename_i r
        cases r with
        | none => exact ⟨_, _, ⟨_, by simp only [callB, hu]; rfl, rfl⟩, h⟩
        | some r =>
          simp only [] at h
          split at h
          · rename_i o ho
            cases o <;> first | exact (ms.nf h).elim | skip
            rename_i es
            exact ⟨_, _, ⟨.mlen r, by simp only [callB, hu], by simp [exec, ho]⟩, h⟩
          · exact (ms.nf h).elim
      · rename_i n e hu
        refine ⟨_, _, ⟨.val (.int .i64 n), ?_, rfl⟩, h⟩
        cases x <;> simp only [callB, hu]
      · exact (ms.nf h).elim
    · exact (ms.nf h).elim
  · split at h
    · rename_i st xt s x
      split at h
      · rename_i e d hu hd
        split at h
        · exact (ms.nf h).elim
        · rename_i hni
          obtain ⟨n, h1, h⟩ := qO_sat ms h
          obtain ⟨b, h2, h⟩ := qO_sat ms h
          obtain ⟨z, h3, h⟩ := qO_sat ms h
          obtain ⟨h4, h⟩ := bif_sat ms h
          cases htd : X.tyd e with
          | true =>
            simp only [htd, gB_true] at h
            obtain ⟨v, H', h5, h⟩ := qHp_sat ms h
            refine ⟨v, H', ⟨.app n b s x hm (some e), ?_, by simp [exec, v2, h5]⟩, h⟩
            simp only [callB, hu, hd]
            cases d <;> first | exact (hni _ rfl).elim | simp only [h1, h2, h3, h4, htd, cond_true]
          | false =>
            simp only [htd, gB_false] at h
            obtain ⟨v, H', h5, h⟩ := qHp_sat ms h
            refine ⟨v, H', ⟨.app n b s x hm none, ?_, by simp [exec, v2, h5]⟩, h⟩
            simp only [callB, hu, hd]
            cases d <;> first | exact (hni _ rfl).elim | simp only [h1, h2, h3, h4, htd, cond_true, cond_false]
      · exact (ms.nf h).elim
    · exact (ms.nf h).elim
  · split at h
    · rename_i x r
      obtain ⟨v, h1, h⟩ := qO_sat ms h
      exact ⟨v, H, ⟨.val v, by simp [callB, pv, h1], rfl⟩, h⟩
    · exact (ms.nf h).elim
  · split at h
    · rename_i x r
      obtain ⟨v, h1, h⟩ := qO_sat ms h
      exact ⟨v, H, ⟨.val v, by simp [callB, pv, h1], rfl⟩, h⟩
    · exact (ms.nf h).elim
  · exact (ms.nf h).elim

end
end Go.Aes
