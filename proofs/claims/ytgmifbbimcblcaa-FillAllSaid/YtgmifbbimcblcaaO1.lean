import Derived.Test.YtgmifbbimcblcaaF
set_option linter.all false
set_option linter.unusedVariables false
set_option linter.unusedSimpArgs false
namespace Go.Aes
open Go.RowKit

structure CxOk (X : Cx) (P : Program) : Prop where
  fn : ∀ f fn, X.fn f = some fn → P.funcs[f]? = some fn ∧ (fn.name == "runtime.NumGoroutine") = false
  und : ∀ t d, X.und t = some d → P.underlying t = some d
  size : ∀ t n, X.size t = some n → ∃ i, P.info? t = some i ∧ i.size = n
  bytes : ∀ t n, X.bytes t = some n → ∃ i, P.info? t = some i ∧ i.bytes = n
  zero : ∀ t z, X.zero t = some z → ∃ i v a, P.info? t = some i ∧ i.zero = some v ∧ ofV v = some a ∧ a.cells = z ∧
    (X.isAgg t = some true → ∃ cs, a = .agg cs) ∧ (X.isAgg t = some false → one a = true) ∧ X.isAgg t ≠ none
  fields : ∀ t fs, X.und t = some (.struct fs) → ∀ f, f ∈ fs.toList → ∃ n, X.size f.type = some n
  mixed : P.follows .mixedOrders = true

section
variable {X : Cx} {P : Program} (ok : CxOk X P) {K : KC}

theorem CxOk.run_und (ok : CxOk X P) {t : Nat} {d : TypeDesc} (h : X.und t = some d) (w : World) : (underlying t).run P w = .ok d w := run_underlying (ok.und t d h) w

theorem CxOk.run_info {t : Nat} {i : TypeInfo} (h : P.info? t = some i) (w : World) : (typeInfo t).run P w = .ok i w := by
  simp [typeInfo, h]

theorem CxOk.run_size (ok : CxOk X P) {t n : Nat} (h : X.size t = some n) (w : World) : (sizeOf t).run P w = .ok n w := by
  obtain ⟨i, hi, hn⟩ := ok.size t n h
  simp [sizeOf, CxOk.run_info hi, hn]

theorem CxOk.run_isAgg (ok : CxOk X P) {t : Nat} {b : Bool} (h : X.isAgg t = some b) (w : World) : (isAgg t).run P w = .ok b w := by
  unfold Cx.isAgg at h
  cases hu : X.und t with
  | none => simp [hu] at h
  | some d =>
    rw [hu] at h
    simp only [isAgg, Sem.run_bind, ok.run_und hu]
    cases d <;> simp_all

theorem CxOk.run_zero (ok : CxOk X P) {t : Nat} {z : List AV} (h : X.zero t = some z) : ∃ v a, ofV v = some a ∧ a.cells = z ∧ (∀ w, (zeroValue t).run P w = .ok v w) ∧
    (X.isAgg t = some true → ∃ cs, a = .agg cs) ∧ (X.isAgg t = some false → one a = true) ∧ X.isAgg t ≠ none := by
  obtain ⟨i, v, a, hi, hz, ho, hc, h1, h2, h3⟩ := ok.zero t z h
  exact ⟨v, a, ho, hc, fun w => by simp [zeroValue, CxOk.run_info hi, hz], h1, h2, h3⟩

/-! ### constants -/
theorem of1_spec {v : Value} {a : AV} (h : of1 v = some a) : RV K a v := by
  cases v <;> simp only [of1] at h
  case bool b => injection h with h; subst h; exact .bool b
  case int k n => injection h with h; subst h; exact .int k n
  case string s => injection h with h; subst h; simpa using RV.str (K := K) s.data.toList
  case pointer a => cases a <;> simp at h; subst h; exact .nilp
  case slice a n c =>
    cases a with
    | some a => simp at h
    | none =>
      cases hn : n.beq 0 <;> cases hc : c.beq 0 <;> simp [hn, hc] at h
      subst h
      have e1 : n = 0 := by simpa using hn
      have e2 : c = 0 := by simpa using hc
      subst e1; subst e2
      exact .slNil
  case map a => cases a <;> simp at h; subst h; exact .mapNil
  case func f x y =>
    cases hn : x.size.beq 0 <;> cases hc : y.size.beq 0 <;> simp [hn, hc] at h
    subst h
    have e1 : x.size = 0 := by simpa using hn
    have e2 : y.size = 0 := by simpa using hc
    exact .fn _ [] [] x y (by simpa using e1) (by simpa using e2) (by simp) (by simp)
  case nilFunc => injection h with h; subst h; exact .nilfn
  case nilIface => injection h with h; subst h; exact .nilif
  all_goals cases h

theorem ofL_spec : ∀ {l : List Value} {cs : List AV}, ofL l = some cs → RL K cs l
  | [], cs, h => by simp [ofL] at h; subst h; exact .nil
  | x :: r, cs, h => by
    simp only [ofL] at h
    cases h1 : of1 x with
    | none => simp [h1] at h
    | some a =>
      cases h2 : ofL r with
      | none => simp [h1, h2] at h
      | some l =>
        simp [h1, h2] at h
        subst h
        exact .cons (of1_spec h1) (ofL_spec h2)

theorem ofV_spec {v : Value} {a : AV} (h : ofV v = some a) : RV K a v := by
  cases v <;> simp only [ofV] at h
  case agg cs => obtain ⟨cs', h', rfl⟩ := Option.map_eq_some_iff.1 h; simpa using (ofL_spec (K := K) h').agg
  case tuple cs => obtain ⟨cs', h', rfl⟩ := Option.map_eq_some_iff.1 h; simpa using (ofL_spec (K := K) h').tup
  all_goals exact of1_spec h

/-! ### the frame -/
structure RF (K : KC) (nt : Nat) (fr : Fr) (a : Act) : Prop where
  size : a.tmps.size = nt
  at_ : ∀ t, RV K ((fr.get t).getD undef) (a.tmps.getD t Go.undef)
  defers : a.defers = []

theorem RF.mono {K K' : KC} (h : K.le K') {nt : Nat} {fr : Fr} {a : Act} (x : RF K nt fr a) : RF K' nt fr a := ⟨x.size, fun t => (x.at_ t).mono h, x.defers⟩

theorem RF.put {nt : Nat} {fr : Fr} {a : Act} (x : RF K nt fr a) (hnt : nt < 2 ^ 39) {d : Option Nat} (hd : dstOk nt d = true) {v : AV} {v' : Value} (hv : RV K v v') : RF K nt (putD fr d v) (a.put d v') := by
  cases d with
  | none => exact x
  | some d =>
    have hlt : d < nt := by simpa [dstOk, Nat.blt_eq] using hd
    refine ⟨by simp [Act.put, x.size], fun t => ?_, x.defers⟩
    simp only [putD, Act.put]
    rw [Tr.get_put (some v) 40 fr d t (by omega)]
    by_cases e : t = d
    · subst e
      rw [if_pos rfl]
      have : (a.tmps.setIfInBounds t v').getD t Go.undef = v' := by simp [Array.getD, x.size, hlt]
      rw [this]; exact hv
    · rw [if_neg e]
      have : (a.tmps.setIfInBounds d v').getD t Go.undef = a.tmps.getD t Go.undef := by
        simp [Array.getD_eq_getD_getElem?, Array.getElem?_setIfInBounds_ne (Ne.symm e)]
      rw [this]; exact x.at_ t

theorem RF.ev {nt : Nat} {fr : Fr} {a : Act} (x : RF K nt fr a) {o : Operand} {v : AV} (h : ev fr o = some v) : RV K v (a.eval o) := by
  cases o with
  | tmp t => simp [Aes.ev] at h; subst h; exact x.at_ t
  | const c => simp only [Aes.ev] at h; exact ofV_spec h
  | func f => simp [Aes.ev] at h; subst h; exact .fn _ [] [] #[] #[] rfl rfl (by simp) (by simp)
  | global g => simp [Aes.ev] at h

theorem RF.evs {nt : Nat} {fr : Fr} {a : Act} (x : RF K nt fr a) : ∀ {l : List Operand} {vs : List AV}, evs fr l = some vs → RL K vs (l.map a.eval)
  | [], vs, h => by simp [Aes.evs] at h; subst h; exact .nil
  | o :: r, vs, h => by
    simp only [Aes.evs] at h
    cases hv : Aes.ev fr o with
    | none => simp [hv] at h
    | some v =>
      rw [hv] at h
      obtain ⟨vs', h', rfl⟩ := Option.map_eq_some_iff.1 h
      exact .cons (x.ev hv) (x.evs h')

theorem RF.evps {nt : Nat} {fr : Fr} {a : Act} (x : RF K nt fr a) : ∀ {l : List (Nat × Operand)} {vs : List (Nat × AV)}, evps fr l = some vs →
    vs.map (·.1) = l.map (·.1) ∧ RL K (vs.map (·.2)) (l.map fun p => a.eval p.2)
  | [], vs, h => by simp [Aes.evps] at h; subst h; exact ⟨rfl, .nil⟩
  | (i, o) :: r, vs, h => by
    simp only [Aes.evps] at h
    cases hv : Aes.ev fr o with
    | none => simp [hv] at h
    | some v =>
      rw [hv] at h
      obtain ⟨vs', h', rfl⟩ := Option.map_eq_some_iff.1 h
      obtain ⟨h1, h2⟩ := x.evps h'
      exact ⟨by simp [h1], .cons (x.ev hv) h2⟩

theorem RV.bool_inv {b : Bool} {v : Value} (h : RV K (.bool b) v) : v = .bool b := by cases h; rfl
theorem RV.int_inv {k : IntKind} {n : Int} {v : Value} (h : RV K (.int k n) v) : v = .int k n := by cases h; rfl
theorem RV.str_inv {s : List UInt8} {v : Value} (h : RV K (.str s) v) : v = .string ⟨s.toArray⟩ := by cases h; rfl
theorem RV.to_bool {a : AV} {b : Bool} (h : RV K a (.bool b)) : a = .bool b := by cases h; rfl

theorem RF.wanted {nt : Nat} {fr : Fr} {a : Act} (x : RF K nt fr a) (ops : Array Oper) (o : Oper) : Region.wanted o (yielded ops a.tmps) = wantedB fr ops.toList o := by
  unfold Region.wanted wantedB
  cases o.guard with
  | none => rfl
  | some g =>
    obtain ⟨j, want⟩ := g
    simp only [yielded, Array.getElem?_toList]
    cases hj : ops[j]? with
    | none => simp
    | some oj =>
      simp only [Option.bind_some]
      cases hd : oj.dst with
      | none => simp
      | some d =>
        simp only [Option.bind_some]
        have hx := x.at_ d
        have key : ∀ b, (fr.get d = some (.bool b) ↔ a.tmps[d]? = some (.bool b)) := by
          intro b
          constructor
          · intro h
            rw [h] at hx
            have := hx.bool_inv
            rw [Array.getD_eq_getD_getElem?] at this
            cases ht : a.tmps[d]? with
            | none => rw [ht] at this; simp [Go.undef] at this
            | some v => rw [ht] at this; simpa using this
          · intro h
            rw [Array.getD_eq_getD_getElem?, h] at hx
            have := RV.to_bool hx
            cases hf : fr.get d with
            | none => rw [hf] at this; simp [undef] at this
            | some v => rw [hf] at this; simpa using this
        cases hf : fr.get d with
        | none =>
          have : ∀ b, a.tmps[d]? ≠ some (.bool b) := fun b h => by have := (key b).2 h; rw [hf] at this; cases this
          cases ht : a.tmps[d]? with
          | none => simp
          | some v => cases v <;> simp_all
        | some av =>
          cases av with
          | bool b => rw [(key b).1 hf]; simp
          | _ =>
            have : ∀ b, a.tmps[d]? ≠ some (.bool b) := fun b h => by have := (key b).2 h; rw [hf] at this; cases this
            cases ht : a.tmps[d]? with
            | none => simp
            | some v => cases v <;> simp_all

end
end Go.Aes
