import Derived.Test.YtnmljkjdflfdoaaDoorS2
set_option linter.all false
set_option linter.unusedVariables false
set_option linter.unusedSimpArgs false
namespace Go.Aes
open Go.RowKit

section
variable {R : Type} [Mon R] {Sat : R → Prop} {PP : AV → AH → Prop} {X : Cx} {C : CallF}

/-- what the names stand for in the frame -/
def ER (env : Env) (fr : Fr) : Prop := ∀ t v, lk t env = some v → (fr.get t).getD undef = v

theorem ER.ve {env : Env} {fr : Fr} (e : ER env fr) {x : Operand} {v : AV} (h : ve env x = some v) : ev fr x = some v := by
  cases x with
  | tmp t => simp only [Aes.ve] at h; simp only [ev]; rw [e t v h]
  | const c => exact h
  | func f => exact h
  | global g => cases h

theorem ER.ves {env : Env} {fr : Fr} (e : ER env fr) : ∀ {l : List Operand} {vs : List AV}, ves env l = some vs → evs fr l = some vs
  | [], vs, h => by simpa [Aes.ves, evs] using h
  | x :: r, vs, h => by
    simp only [Aes.ves] at h
    cases h1 : Aes.ve env x with
    | none => simp [h1] at h
    | some v =>
      cases h2 : Aes.ves env r with
      | none => simp [h1, h2] at h
      | some l =>
        simp only [h1, h2] at h
        simp only [evs, e.ve h1, e.ves h2]
        exact h

theorem ER.veps {env : Env} {fr : Fr} (e : ER env fr) : ∀ {l : List (Nat × Operand)} {vs : List (Nat × AV)}, veps env l = some vs → evps fr l = some vs
  | [], vs, h => by simpa [Aes.veps, evps] using h
  | (i, x) :: r, vs, h => by
    simp only [Aes.veps] at h
    cases h1 : Aes.ve env x with
    | none => simp [h1] at h
    | some v =>
      cases h2 : Aes.veps env r with
      | none => simp [h1, h2] at h
      | some l =>
        simp only [h1, h2] at h
        simp only [evps, e.ve h1, e.veps h2]
        exact h

theorem ER.veo {env : Env} {fr : Fr} (e : ER env fr) {x : Option Operand} {v : Option AV} (h : veo env x = some v) : evo fr x = some v := by
  cases x with
  | none => exact h
  | some x =>
    simp only [Aes.veo] at h
    cases h1 : Aes.ve env x with
    | none => simp [h1] at h
    | some a =>
      simp only [h1] at h
      simp only [evo, e.ve h1]
      exact h

theorem pvg {H : AH} {v : AV} {x : Option AV} (h : x = some v) : Gives X C (pv x) H v H := by subst h; exact ⟨_, rfl, rfl⟩

theorem hOp_sat (ms : MonOk R Sat PP) {f : Nat} {pn : Bool} {o : Oper} {env : Env} {fr : Fr} {H : AH} {k : AV → AH → R} (e : ER env fr) (h : Sat (hOp X C f pn o env H k)) :
    (∃ v H', Gives X C (inst X f fr o) H v H' ∧ Sat (k v H')) ∨ (pn = true ∧ ∃ v H', Pans X C (inst X f fr o) H v H' ∧ PP v H') := by
  unfold hOp at h
  unfold inst
  cases o
  rename_i d op ty pos af gd
  cases op <;> simp only [] at h ⊢ <;> first | exact (ms.nf h).elim | skip
  case move x => obtain ⟨v, h1, h⟩ := qO_sat ms h; exact .inl ⟨v, H, pvg (e.ve h1), h⟩
  case assign x => obtain ⟨v, h1, h⟩ := qO_sat ms h; exact .inl ⟨v, H, pvg (e.ve h1), h⟩
  case pick c a b =>
    obtain ⟨c, h1, h⟩ := qO_sat ms h
    obtain ⟨a, b, h2, h3, h⟩ := w2_sat ms h
    unfold qPick at h
    cases c with
    | bool t =>
      cases t with
      | true => exact .inl ⟨a, H, by simp only [e.ve h1]; exact pvg (e.ve h2), h⟩
      | false => exact .inl ⟨b, H, by simp only [e.ve h1]; exact pvg (e.ve h3), h⟩
    | _ => exact (ms.nf h).elim
  case alloc t =>
    obtain ⟨z, h1, h⟩ := qO_sat ms h
    simp only [h1]
    cases ht : X.tyd t with
    | true => simp only [ht, gB_true] at h; exact .inl (qNew_sat ms h)
    | false => simp only [ht, gB_false] at h; exact .inl (qNew_sat ms h)
  case box t x =>
    obtain ⟨v, h1, h⟩ := qO_sat ms h
    obtain ⟨h2, h⟩ := bif_sat ms h
    simp only [e.ve h1, h2, cond_true]
    exact .inl (qNew_sat ms h)
  case build t ps =>
    obtain ⟨l, h1, h⟩ := qO_sat ms h
    obtain ⟨v, h2, h⟩ := hBuild_sat ms h
    simp only [e.veps h1]
    exact .inl ⟨v, H, pvg h2, h⟩
  case buildSlice t n ps =>
    obtain ⟨l, h1, h⟩ := qO_sat ms h
    simp only [e.veps h1]
    exact .inl (hRows_sat ms h)
  case load t a =>
    obtain ⟨a, h1, h⟩ := qO_sat ms h
    obtain ⟨v, h2, h⟩ := hLoad_sat ms h
    refine .inl ⟨v, H, ⟨.load t a, by simp [e.ve h1], by simp [exec, v1, h2]⟩, h⟩
  case store t a v =>
    obtain ⟨a, v, h1, h2, h⟩ := w2_sat ms h
    obtain ⟨u, H', h3, h⟩ := hStore_sat (C := C) ms h
    exact .inl ⟨u, H', ⟨_, by simp only [e.ve h1, e.ve h2], h3⟩, h⟩
  case nilCheck x =>
    obtain ⟨x, h1, h⟩ := qO_sat ms h
    unfold qNc at h
    cases x with
    | ptr i o => exact .inl ⟨_, H, ⟨_, by simp only [e.ve h1]; rfl, rfl⟩, h⟩
    | vptr i o => exact .inl ⟨_, H, ⟨_, by simp only [e.ve h1]; rfl, rfl⟩, h⟩
    | fn f a b => cases f with
      | func g => exact .inl ⟨_, H, ⟨_, by simp only [e.ve h1]; rfl, rfl⟩, h⟩
      | _ => exact (ms.nf h).elim
    | _ => exact (ms.nf h).elim
  case binOp op t x y yt =>
    obtain ⟨x, y, h1, h2, h⟩ := w2_sat ms h
    obtain ⟨v, h3, h⟩ := hBin_sat ms h
    exact .inl ⟨v, H, by simp only [e.ve h1, e.ve h2]; exact pvg h3, h⟩
  case unOp op t x =>
    obtain ⟨x, h1, h⟩ := qO_sat ms h
    obtain ⟨v, h2, h⟩ := hUn_sat ms h
    refine .inl ⟨v, H, ?_, h⟩
    simp only [e.ve h1]
    cases hs : scal x with
    | none => simp [hs] at h2
    | some a => simp only [hs] at h2 ⊢; exact pvg h2
  case convert s d x =>
    obtain ⟨x, h1, h⟩ := qO_sat ms h
    obtain ⟨v, h2, h⟩ := hConv_sat (C := C) ms h
    exact .inl ⟨v, H, by simp only [e.ve h1]; exact h2, h⟩
  case makeFunc g a b =>
    obtain ⟨a, h1, h⟩ := qO_sat ms h
    obtain ⟨b, h2, h⟩ := qO_sat ms h
    exact .inl ⟨_, H, ⟨_, by simp only [e.ves h1, e.ves h2]; rfl, rfl⟩, h⟩
  case makeInterface t x =>
    obtain ⟨v, h1, h⟩ := qO_sat ms h
    cases hu : X.und t with
    | none => rw [hu] at h; exact (ms.nf h).elim
    | some d =>
      rw [hu] at h
      cases d <;> first
        | exact (ms.nf h).elim
        | exact .inl ⟨_, H, ⟨.val (.iface t v), by simp only [hu, e.ve h1], rfl⟩, h⟩
  case panic x =>
    obtain ⟨v, h1, h⟩ := qO_sat ms h
    cases pn with
    | false => rw [gB_false] at h; exact (ms.nf h).elim
    | true =>
      rw [gB_true] at h
      unfold qPan at h
      cases v <;> first | exact (ms.nf h).elim | skip
      exact .inr ⟨rfl, _, H, ⟨.panic _, by simp only [e.ve h1], rfl⟩, ms.pan _ _ h⟩
  case makeMap t n =>
    cases n with
    | some n => exact (ms.nf h).elim
    | none => exact .inl (qNew_sat ms h)
  case slice t x lo hi mx =>
    obtain ⟨x, h1, h⟩ := qO_sat ms h
    obtain ⟨lo, h2, h⟩ := qO_sat ms h
    obtain ⟨hi, h3, h⟩ := qO_sat ms h
    obtain ⟨mx, h4, h⟩ := qO_sat ms h
    obtain ⟨v, h5, h⟩ := hSlc_sat ms h
    exact .inl ⟨v, H, by simp only [e.ve h1, e.veo h2, e.veo h3, e.veo h4]; exact pvg h5, h⟩
  case fieldAddr t x f =>
    obtain ⟨x, h1, h⟩ := qO_sat ms h
    obtain ⟨v, h2, h⟩ := hField_sat ms h
    exact .inl ⟨v, H, by simp only [e.ve h1]; exact pvg h2, h⟩
  case field t x f =>
    obtain ⟨x, h1, h⟩ := qO_sat ms h
    obtain ⟨v, h2, h⟩ := hPart_sat ms h
    exact .inl ⟨v, H, by simp only [e.ve h1]; exact pvg h2, h⟩
  case indexAddr t x i =>
    obtain ⟨x, i, h1, h2, h⟩ := w2_sat ms h
    obtain ⟨v, h3, h⟩ := hIa_sat ms h
    exact .inl ⟨v, H, by simp only [e.ve h1, e.ve h2]; exact pvg h3, h⟩
  case index t x i =>
    obtain ⟨x, i, h1, h2, h⟩ := w2_sat ms h
    obtain ⟨v, h3, h⟩ := hIx_sat ms h
    exact .inl ⟨v, H, by simp only [e.ve h1, e.ve h2]; exact pvg h3, h⟩
  case lookup t m i ok =>
    obtain ⟨m, i, h1, h2, h⟩ := w2_sat ms h
    obtain ⟨v, h3, h⟩ := qO_sat ms h
    exact .inl ⟨v, H, ⟨.look t m i ok, by simp only [e.ve h1, e.ve h2], by simp [exec, v1, h3]⟩, h⟩
  case mapUpdate t m i v =>
    obtain ⟨m, i, h1, h2, h⟩ := w2_sat ms h
    obtain ⟨v, h3, h⟩ := qO_sat ms h
    obtain ⟨H', h4, h⟩ := qO_sat ms h
    exact .inl ⟨_, H', ⟨.mset t m i v, by simp only [e.ve h1, e.ve h2, e.ve h3], by simp [exec, u1, h4]⟩, h⟩
  case range t x =>
    obtain ⟨x, h1, h⟩ := qO_sat ms h
    split at h
    · rename_i hu
      unfold qRange at h
      cases x <;> first | exact (ms.nf h).elim | skip
      simp only [e.ve h1, hu]
      exact .inl (qNew_sat ms h)
    · exact (ms.nf h).elim
  case next it b =>
    cases b with
    | false => exact (ms.nf h).elim
    | true =>
      simp only [] at h
      obtain ⟨it, h1, h⟩ := qO_sat ms h
      unfold qNext at h
      cases it <;> first | exact (ms.nf h).elim | skip
      rename_i i
      obtain ⟨v, H', h2, h⟩ := qHp_sat ms h
      exact .inl ⟨v, H', ⟨.next i, by simp only [e.ve h1], by simp [exec, v2, h2]⟩, h⟩
  case extract t i =>
    obtain ⟨x, h1, h⟩ := qO_sat ms h
    unfold qExt at h
    cases x <;> first | exact (ms.nf h).elim | skip
    obtain ⟨v, h2, h⟩ := qO_sat ms h
    exact .inl ⟨v, H, by simp only [e.ve h1]; exact pvg h2, h⟩
  case makeSlice t n c =>
    obtain ⟨n, c, h1, h2, h⟩ := w2_sat ms h
    split at h
    · rename_i el hu
      obtain ⟨z, h3, h⟩ := qO_sat ms h
      obtain ⟨sz, h4, h⟩ := qO_sat ms h
      obtain ⟨b, h5, h⟩ := qO_sat ms h
      obtain ⟨n', h6, h⟩ := qO_sat ms h
      obtain ⟨c', h7, h⟩ := qO_sat ms h
      obtain ⟨h8, h⟩ := bif_sat ms h
      simp only [hu, e.ve h1, e.ve h2, h3, h4, h5, h6, h7, h8, cond_true]
      exact .inl (qNew_sat ms h)
    · exact (ms.nf h).elim
  case call c =>
    split at h
    · rename_i b hc
      obtain ⟨as, h1, h⟩ := qO_sat ms h
      simp only [hc, e.ves h1]
      exact .inl (hCallB_sat ms h)
    · rename_i g hc
      obtain ⟨gv, h1, h⟩ := qO_sat ms h
      obtain ⟨as, h2, h⟩ := qO_sat ms h
      simp only [hc, e.ve h1, e.ves h2]
      cases hf : isFn g with
      | true =>
        simp only [hf, cond_true, gB_true] at h
        unfold hCallS at h
        cases gv with
        | fn fn first cap => cases fn with
          | func g' =>
            obtain ⟨h3, h5⟩ := bif_sat ms h
            have e1 : first = [] := by cases first <;> simp_all [isNil]
            have e2 : cap = [] := by cases cap <;> simp_all [isNil]
            rw [e1, e2]
            cases pn with
            | true =>
              rw [gB_true] at h5
              rcases qRes_sat ms h5 with ⟨v, H', h4, h6⟩ | ⟨v, H', h4, h6⟩
              · exact .inl ⟨v, H', ⟨_, rfl, by simpa [exec] using h4⟩, h6⟩
              · exact .inr ⟨rfl, v, H', ⟨_, rfl, by simpa [exec] using h4⟩, h6⟩
            | false =>
              rw [gB_false] at h5
              obtain ⟨v, H', h4, h6⟩ := qResN_sat ms h5
              exact .inl ⟨v, H', ⟨_, rfl, by simpa [exec] using h4⟩, h6⟩
          | _ => exact (ms.nf h).elim
        | _ => exact (ms.nf h).elim
      | false =>
        simp only [hf, cond_false, gB_false] at h
        cases pn with
        | true =>
          rw [gB_true] at h
          unfold qCallV at h
          cases gv with
          | fn fn first cap => cases fn with
            | func g' =>
              rcases qRes_sat ms h with ⟨v, H', h4, h6⟩ | ⟨v, H', h4, h6⟩
              · exact .inl ⟨v, H', ⟨_, rfl, by simpa [exec] using h4⟩, h6⟩
              · exact .inr ⟨rfl, v, H', ⟨_, rfl, by simpa [exec] using h4⟩, h6⟩
            | _ => exact (ms.nf h).elim
          | _ => exact (ms.nf h).elim
        | false =>
          rw [gB_false] at h
          unfold qCallVN at h
          cases gv with
          | fn fn first cap => cases fn with
            | func g' =>
              obtain ⟨v, H', h4, h6⟩ := qResN_sat ms h
              exact .inl ⟨v, H', ⟨_, rfl, by simpa [exec] using h4⟩, h6⟩
            | _ => exact (ms.nf h).elim
          | _ => exact (ms.nf h).elim
    · exact (ms.nf h).elim

end
end Go.Aes
