import Derived.Test.YtnmljkjdflfdoaaDoorF
set_option linter.all false
set_option linter.unusedVariables false
set_option linter.unusedSimpArgs false
namespace Go.Aes
open Go.RowKit

structure CxOk (X : Cx) (P : Program) : Prop where
  fn : ∀ f fn, X.fn f = some fn → P.funcs[f]? = some fn ∧ (fn.name == "runtime.NumGoroutine") = false
  und : ∀ t d, X.und t = some d → P.underlying t = some d
  size : ∀ t n, X.size t = some n → ∃ i, P.info? t = some i ∧ i.size = n
  bytes : ∀ t n, X.bytes t = some n → ∃ i, P.info? t = some i ∧ i.bytes = n
  zero : ∀ t z, X.zero t = some z → ∃ i v a, P.info? t = some i ∧ i.zero = some v ∧ ofV v = some a ∧ a.cells = z ∧
    (X.isAgg t = some true → ∃ cs, a = .agg cs) ∧ (X.isAgg t = some false → one a = true) ∧ X.isAgg t ≠ none
  fields : ∀ t fs, X.und t = some (.struct fs) → ∀ f, f ∈ fs.toList → ∃ n, X.size f.type = some n
  mixed : P.follows .mixedOrders = true

section
variable {X : Cx} {P : Program} (ok : CxOk X P) {K : KC}

theorem CxOk.run_und (ok : CxOk X P) {t : Nat} {d : TypeDesc} (h : X.und t = some d) (w : World) : (underlying t).run P w = .ok d w := run_underlying (ok.und t d h) w

theorem CxOk.run_info {t : Nat} {i : TypeInfo} (h : P.info? t = some i) (w : World) : (typeInfo t).run P w = .ok i w := by
  simp [typeInfo, h]

theorem CxOk.run_size (ok : CxOk X P) {t n : Nat} (h : X.size t = some n) (w : World) : (sizeOf t).run P w = .ok n w := by
  obtain ⟨i, hi, hn⟩ := ok.size t n h
  simp [sizeOf, CxOk.run_info hi, hn]

theorem CxOk.run_isAgg (ok : CxOk X P) {t : Nat} {b : Bool} (h : X.isAgg t = some b) (w : World) : (isAgg t).run P w = .ok b w := by
  unfold Cx.isAgg at h
  cases hu : X.und t with
  | none => simp [hu] at h
  | some d =>
    rw [hu] at h
    simp only [isAgg, Sem.run_bind, ok.run_und hu]
    cases d <;> simp_all

theorem CxOk.run_zero (ok : CxOk X P) {t : Nat} {z : List AV} (h : X.zero t = some z) : ∃ v a, ofV v = some a ∧ a.cells = z ∧ (∀ w, (zeroValue t).run P w = .ok v w) ∧
    (X.isAgg t = some true → ∃ cs, a = .agg cs) ∧ (X.isAgg t = some false → one a = true) ∧ X.isAgg t ≠ none := by
  obtain ⟨i, v, a, hi, hz, ho, hc, h1, h2, h3⟩ := ok.zero t z h
  exact ⟨v, a, ho, hc, fun w => by simp [zeroValue, CxOk.run_info hi, hz], h1, h2, h3⟩

/-! ### constants -/
theorem of1_spec {v : Value} {a : AV} (h : of1 v = some a) : RV K a v := by
  cases v <;> simp only [of1] at h
  case bool b => injection h with h; subst h; exact .bool b
  case int k n => injection h with h; subst h; exact .int k n
  case string s => injection h with h; subst h; simpa using RV.str (K := K) s.data.toList
  case pointer a => cases a <;> simp at h; subst h; exact .nilp
  case slice a n c =>
    cases a with
    | some a => simp at h
    | none =>
      cases hn : n.beq 0 <;> cases hc : c.beq 0 <;> simp [hn, hc] at h
      subst h
      have e1 : n = 0 := by simpa using hn
      have e2 : c = 0 := by simpa using hc
      subst e1; subst e2
      exact .slNil
  case map a => cases a <;> simp at h; subst h; exact .mapNil
  case func f x y =>
    cases hn : x.size.beq 0 <;> cases hc : y.size.beq 0 <;> simp [hn, hc] at h
    subst h
    have e1 : x.size = 0 := by simpa using hn
    have e2 : y.size = 0 := by simpa using hc
    exact .fn _ [] [] x y (by simpa using e1) (by simpa using e2) (by simp) (by simp)
  case nilFunc => injection h with h; subst h; exact .nilfn
  case nilIface => injection h with h; subst h; exact .nilif
  all_goals cases h

theorem ofL_spec : ∀ {l : List Value} {cs : List AV}, ofL l = some cs → RL K cs l
  | [], cs, h => by simp [ofL] at h; subst h; exact .nil
  | x :: r, cs, h => by
    simp only [ofL] at h
    cases h1 : of1 x with
    | none => simp [h1] at h
    | some a =>
      cases h2 : ofL r with
      | none => simp [h1, h2] at h
      | some l =>
        simp [h1, h2] at h
        subst h
        exact .cons (of1_spec h1) (ofL_spec h2)

theorem ofV_spec {v : Value} {a : AV} (h : ofV v = some a) : RV K a v := by
  cases v <;> simp only [ofV] at h
  case agg cs => obtain ⟨cs', h', rfl⟩ := Option.map_eq_some_iff.1 h; simpa using (ofL_spec (K := K) h').agg
  case tuple cs => obtain ⟨cs', h', rfl⟩ := Option.map_eq_some_iff.1 h; simpa using (ofL_spec (K := K) h').tup
  all_goals exact of1_spec h

/-! ### the frame -/
structure RF (ds : List Deferred) (K : KC) (nt : Nat) (fr : Fr) (a : Act) : Prop where
  size : a.tmps.size = nt
  at_ : ∀ t, RV K ((fr.get t).getD undef) (a.tmps.getD t Go.undef)
  defers : a.defers = ds

theorem RF.mono {ds : List Deferred} {K K' : KC} (h : K.le K') {nt : Nat} {fr : Fr} {a : Act} (x : RF ds K nt fr a) : RF ds K' nt fr a := ⟨x.size, fun t => (x.at_ t).mono h, x.defers⟩

theorem RF.put {ds : List Deferred} {nt : Nat} {fr : Fr} {a : Act} (x : RF ds K nt fr a) (hnt : nt < 2 ^ 39) {d : Option Nat} (hd : dstOk nt d = true) {v : AV} {v' : Value} (hv : RV K v v') : RF ds K nt (putD fr d v) (a.put d v') := by
  cases d with
  | none => exact x
  | some d =>
    have hlt : d < nt := by simpa [dstOk, Nat.blt_eq] using hd
    refine ⟨by simp [Act.put, x.size], fun t => ?_, x.defers⟩
    simp only [putD, Act.put]
    rw [Tr.get_put (some v) 40 fr d t (by omega)]
    by_cases e : t = d
    · subst e
      rw [if_pos rfl]
      have : (a.tmps.setIfInBounds t v').getD t Go.undef = v' := by simp [Array.getD, x.size, hlt]
      rw [this]; exact hv
    · rw [if_neg e]
      have : (a.tmps.setIfInBounds d v').getD t Go.undef = a.tmps.getD t Go.undef := by
        simp [Array.getD_eq_getD_getElem?, Array.getElem?_setIfInBounds_ne (Ne.symm e)]
      rw [this]; exact x.at_ t

theorem RF.ev {ds : List Deferred} {nt : Nat} {fr : Fr} {a : Act} (x : RF ds K nt fr a) {o : Operand} {v : AV} (h : ev fr o = some v) : RV K v (a.eval o) := by
  cases o with
  | tmp t => simp [Aes.ev] at h; subst h; exact x.at_ t
  | const c => simp only [Aes.ev] at h; exact ofV_spec h
  | func f => simp [Aes.ev] at h; subst h; exact .fn _ [] [] #[] #[] rfl rfl (by simp) (by simp)
  | global g => simp [Aes.ev] at h

theorem RF.evs {ds : List Deferred} {nt : Nat} {fr : Fr} {a : Act} (x : RF ds K nt fr a) : ∀ {l : List Operand} {vs : List AV}, evs fr l = some vs → RL K vs (l.map a.eval)
  | [], vs, h => by simp [Aes.evs] at h; subst h; exact .nil
  | o :: r, vs, h => by
    simp only [Aes.evs] at h
    cases hv : Aes.ev fr o with
    | none => simp [hv] at h
    | some v =>
      rw [hv] at h
      obtain ⟨vs', h', rfl⟩ := Option.map_eq_some_iff.1 h
      exact .cons (x.ev hv) (x.evs h')

theorem RF.evps {ds : List Deferred} {nt : Nat} {fr : Fr} {a : Act} (x : RF ds K nt fr a) : ∀ {l : List (Nat × Operand)} {vs : List (Nat × AV)}, evps fr l = some vs →
    vs.map (·.1) = l.map (·.1) ∧ RL K (vs.map (·.2)) (l.map fun p => a.eval p.2)
  | [], vs, h => by simp [Aes.evps] at h; subst h; exact ⟨rfl, .nil⟩
  | (i, o) :: r, vs, h => by
    simp only [Aes.evps] at h
    cases hv : Aes.ev fr o with
    | none => simp [hv] at h
    | some v =>
      rw [hv] at h
      obtain ⟨vs', h', rfl⟩ := Option.map_eq_some_iff.1 h
      obtain ⟨h1, h2⟩ := x.evps h'
      exact ⟨by simp [h1], .cons (x.ev hv) h2⟩

theorem RV.bool_inv {b : Bool} {v : Value} (h : RV K (.bool b) v) : v = .bool b := by cases h; rfl
theorem RV.int_inv {k : IntKind} {n : Int} {v : Value} (h : RV K (.int k n) v) : v = .int k n := by cases h; rfl
theorem RV.str_inv {s : List UInt8} {v : Value} (h : RV K (.str s) v) : v = .string ⟨s.toArray⟩ := by cases h; rfl
theorem RV.to_bool {a : AV} {b : Bool} (h : RV K a (.bool b)) : a = .bool b := by cases h; rfl

theorem RF.wanted {ds : List Deferred} {nt : Nat} {fr : Fr} {a : Act} (x : RF ds K nt fr a) (ops : Array Oper) (o : Oper) : Region.wanted o (yielded ops a.tmps) = wantedB fr ops.toList o := by
  unfold Region.wanted wantedB
  cases o.guard with
  | none => rfl
  | some g =>
    obtain ⟨j, want⟩ := g
    simp only [yielded, Array.getElem?_toList]
    cases hj : ops[j]? with
    | none => simp
    | some oj =>
      simp only [Option.bind_some]
      cases hd : oj.dst with
      | none => simp
      | some d =>
        simp only [Option.bind_some]
        have hx := x.at_ d
        have key : ∀ b, (fr.get d = some (.bool b) ↔ a.tmps[d]? = some (.bool b)) := by
          intro b
          constructor
          · intro h
            rw [h] at hx
            have := hx.bool_inv
            rw [Array.getD_eq_getD_getElem?] at this
            cases ht : a.tmps[d]? with
            | none => rw [ht] at this; simp [Go.undef] at this
            | some v => rw [ht] at this; simpa using this
          · intro h
            rw [Array.getD_eq_getD_getElem?, h] at hx
            have := RV.to_bool hx
            cases hf : fr.get d with
            | none => rw [hf] at this; simp [undef] at this
            | some v => rw [hf] at this; simpa using this
        cases hf : fr.get d with
        | none =>
          have : ∀ b, a.tmps[d]? ≠ some (.bool b) := fun b h => by have := (key b).2 h; rw [hf] at this; cases this
          cases ht : a.tmps[d]? with
          | none => simp
          | some v => cases v <;> simp_all
        | some av =>
          cases av with
          | bool b => rw [(key b).1 hf]; simp
          | _ =>
            have : ∀ b, a.tmps[d]? ≠ some (.bool b) := fun b h => by have := (key b).2 h; rw [hf] at this; cases this
            cases ht : a.tmps[d]? with
            | none => simp
            | some v => cases v <;> simp_all

end
end Go.Aes
set_option linter.unusedVariables false
set_option linter.unusedSimpArgs false
namespace Go.Aes
open Go.RowKit

/-- the run gives this value, in whatever world, and leaves it -/
def PureOk (P : Program) (K : KC) (s : Sem Value) (a : AV) : Prop := ∃ v, (∀ w, s.run P w = .ok v w) ∧ RV K a v

section
variable {X : Cx} {P : Program} {K : KC}

theorem ofSem_spec {s : Sem Value} {a : AV} (h : ofSem s = some a) : PureOk P K s a := by
  cases s <;> simp only [ofSem] at h <;> try (cases h; done)
  rename_i v
  cases v <;> simp only [Option.some.injEq] at h <;> try (cases h; done)
  · subst h; exact ⟨_, fun w => rfl, .bool _⟩
  · subst h; exact ⟨_, fun w => rfl, .int _ _⟩

theorem scal_spec {a : AV} {v v0 : Value} (h : RV K a v) (hs : scal a = some v0) : v0 = v := by
  cases a <;> simp [scal] at hs
  · subst hs; exact h.bool_inv.symm
  · subst hs; exact h.int_inv.symm

theorem asN_spec {a : AV} {v : Value} {k : Nat} (h : RV K a v) (hs : asN a = some k) : ∃ ik n, v = .int ik n ∧ 0 ≤ n ∧ n.toNat = k := by
  cases a <;> simp only [asN] at hs <;> try (cases hs; done)
  rename_i ik n
  cases hb : decide (0 ≤ n) <;> simp [hb] at hs
  exact ⟨ik, n, h.int_inv, by simpa using hb, hs⟩

theorem bne_of {a b : Nat} (h : a.beq b = false) : a ≠ b := fun e => by subst e; simp at h
theorem beq_of {a b : Nat} (h : a.beq b = true) : a = b := by simpa using h
theorem blt_of {a b : Nat} (h : a.blt b = true) : a < b := by simpa [Nat.blt_eq] using h
theorem ble_of {a b : Nat} (h : a.ble b = true) : a ≤ b := by simpa using h

theorem field_ok (ok : CxOk X P) {t f : Nat} {a b : AV} {v : Value} (h : fieldAt X t a f = some b) (hv : RV K a v) : PureOk P K (Instr.fieldAt t v f) b := by
  unfold fieldAt at h
  cases hu : X.und t with
  | none => simp [hu] at h
  | some d =>
    cases d <;> simp [hu] at h
    case struct fs =>
      cases hf : fs[f]? with
      | none => simp [hf] at h
      | some fd =>
        simp only [hf] at h
        cases hs : X.size fd.type with
        | none => simp [hs] at h
        | some n =>
          simp only [hs] at h
          cases hn : n.beq 0 with
          | true => simp [hn] at h
          | false =>
            have hn0 := bne_of hn
            simp only [hn, cond_false] at h
            have key : ∀ (ad : Addr), v = .pointer (some ad) → ∀ w, (Instr.fieldAt t v f).run P w = .ok (.pointer (some (ad.add fd.offset))) w := by
              intro ad hv w
              subst hv
              simp [Instr.fieldAt, ok.run_und hu, hf, Instr.sureAddr, fieldPlace, ok.run_size hs, hn0]
            cases a <;> simp at h
            case ptr i o =>
              cases hv with
              | ptr i o b z hm => subst h; exact ⟨_, key _ rfl, by rw [add_plain]; exact .ptr i _ b z hm⟩
            case vptr row o =>
              cases hv with
              | vptr row o b d cv hF hv => subst h; exact ⟨_, key _ rfl, by rw [add_plain, Nat.add_assoc]; exact .vptr row _ b d cv hF hv⟩

theorem RV.row_at {rows : List (List AV)} {tk : Tk} {v : Value} (h : RV K (.sl rows tk) v) {k : Nat} {r : List AV} (hk : rows[k]? = some r) :
    ∃ (b d c : Nat) (cv : Nat → Value), v = .slice (some ⟨b, d, none⟩) rows.length c ∧ (∀ (j : Nat) (a : AV), r[j]? = some a → K.F b (d + k * r.length + j) = some (cv j)) ∧
      (∀ (j : Nat) (a : AV), r[j]? = some a → RV K a (cv j)) := by
  cases h with
  | slNil => simp at hk
  | slE p tk ht => simp at hk
  | sl rows tk b d c sz cv h0 hr hF hv hc ht =>
    have hl : r.length = sz := hr r (List.mem_of_getElem? hk)
    exact ⟨b, d, c, fun j => cv (k * sz + j), rfl, fun j a ha => by rw [hl]; exact hF k r j a hk ha, fun j a ha => hv k r j a hk ha⟩

theorem index_ok (ok : CxOk X P) {t : Nat} {a ix b : AV} {v vi : Value} (h : indexAt X t a ix = some b) (hv : RV K a v) (hi : RV K ix vi) : PureOk P K (Instr.indexAt t v vi) b := by
  unfold indexAt at h
  cases hk : asN ix with
  | none => simp [hk] at h
  | some k =>
    obtain ⟨ik, n, rfl, hn0, hnk⟩ := asN_spec hi hk
    simp only [hk] at h
    cases hu : X.und t with
    | none => simp [hu] at h
    | some d =>
      cases d <;> simp only [hu] at h <;> try (cases h; done)
      case array len e =>
        cases hb : k.blt len with
        | false => simp [hb] at h
        | true =>
          have hlt := blt_of hb
          simp only [hb, cond_true] at h
          cases hs : X.size e with
          | none => simp [hs] at h
          | some sz =>
            simp only [hs] at h
            have key : ∀ (ad : Addr), v = .pointer (some ad) → ∀ w, (Instr.indexAt t v (.int ik n)).run P w = .ok (.pointer (some (ad.add (k * sz)))) w := by
              intro ad hv w
              subst hv
              have h1 : 0 ≤ n ∧ n < (len : Int) := ⟨hn0, by omega⟩
              simp [Instr.indexAt, asIntOf, ok.run_und hu, Instr.sureAddr, h1.1, h1.2, ok.run_size hs, hnk]
            cases a <;> simp only [Option.some.injEq] at h <;> try (cases h; done)
            case ptr i o =>
              cases hv with
              | ptr i o b z hm => subst h; exact ⟨_, key _ rfl, by rw [add_plain]; exact .ptr i _ b z hm⟩
            case vptr row o =>
              cases hv with
              | vptr row o b d cv hF hv => subst h; exact ⟨_, key _ rfl, by rw [add_plain, Nat.add_assoc]; exact .vptr row _ b d cv hF hv⟩
      case slice e =>
        cases hs : X.size e with
        | none => simp [hs] at h
        | some sz =>
          simp only [hs] at h
          have key : ∀ (ad : Addr) (len c : Nat), v = .slice (some ad) len c → k < len → ∀ w, (Instr.indexAt t v (.int ik n)).run P w = .ok (.pointer (some (ad.add (k * sz)))) w := by
            intro ad len c hv hlt w
            subst hv
            have h1 : 0 ≤ n ∧ n < (len : Int) := ⟨hn0, by omega⟩
            simp [Instr.indexAt, asIntOf, ok.run_und hu, h1.1, h1.2, ok.run_size hs, hnk]
          cases a <;> simp only [] at h <;> try (cases h; done)
          case sl rows tk =>
            cases hr : rows[k]? with
            | none => simp [hr] at h
            | some r =>
              simp only [hr] at h
              cases hb : r.length.beq sz with
              | false => simp [hb] at h
              | true =>
                have hsz := beq_of hb
                simp [hb] at h
                subst h
                obtain ⟨b, d, c, cv, rfl, hF, hV⟩ := hv.row_at hr
                have hlt : k < rows.length := (List.getElem?_eq_some_iff.1 hr).1
                refine ⟨_, key _ _ _ rfl hlt, ?_⟩
                rw [add_plain]
                have := RV.vptr (K := K) r 0 b (d + k * sz) cv (fun j a ha => by rw [← hsz]; exact hF j a ha) hV
                simpa using this
          case hsl i o m c' sz' g =>
            cases hb : (k.blt m && sz'.beq sz) with
            | false => simp [hb] at h
            | true =>
              simp only [hb, cond_true, Option.some.injEq] at h
              subst h
              have hb' := Bool.and_eq_true_iff.1 hb
              cases hv with
              | hsl i o o' n' c'' c1 b z sz1 g hm hn hc hz ho =>
                have hlt := blt_of hb'.1
                have ho' : o' = o := ho.resolve_right (by omega)
                subst ho'
                exact ⟨_, key _ _ _ rfl hlt, by rw [add_plain]; exact .ptr i _ b z hm⟩

theorem part_ok (ok : CxOk X P) {t o : Nat} {cs : List AV} {b : AV} {vs : List Value} (h : part X t cs o = some b) (hv : RL K cs vs) : PureOk P K (Go.part t vs.toArray o) b := by
  unfold part at h
  cases ha : X.isAgg t with
  | none => simp [ha] at h
  | some ag =>
    cases hs : X.size t with
    | none => cases ag <;> simp [ha, hs] at h
    | some n =>
      cases ag <;> simp [ha, hs] at h
      · obtain ⟨v, hv1, hv2⟩ := hv.get h
        exact ⟨v, fun w => by simp [Go.part, ok.run_isAgg ha, hv1], hv2⟩
      · subst h
        refine ⟨.agg (vs.toArray.extract o (o + n)), fun w => by simp [Go.part, ok.run_isAgg ha, ok.run_size hs], ?_⟩
        have := ((hv.drop o).take n).agg
        have e : vs.toArray.extract o (o + n) = ((vs.drop o).take n).toArray := by
          apply Array.ext'
          simp [List.extract_eq_take_drop]
        rw [e]; exact this

theorem fieldOf_ok (ok : CxOk X P) {t f : Nat} {a b : AV} {v : Value} (h : fieldOf X t a f = some b) (hv : RV K a v) : PureOk P K (Instr.field t v f) b := by
  unfold fieldOf at h
  cases hu : X.und t with
  | none => simp [hu] at h
  | some d =>
    cases d <;> simp only [hu] at h <;> try (cases h; done)
    case struct fs =>
      cases a <;> simp only [] at h <;> try (cases h; done)
      case agg cs =>
        obtain ⟨vs, rfl, hvs⟩ := hv.agg_inv
        simp only [Array.getElem?_toList] at h
        cases hf : fs[f]? with
        | none => simp [hf] at h
        | some fd =>
          simp only [hf] at h
          obtain ⟨v', h1, h2⟩ := part_ok ok h hvs
          exact ⟨v', fun w => by simp [Instr.field, ok.run_und hu, hf, asAgg, h1], h2⟩

theorem indexOf_ok (ok : CxOk X P) {t : Nat} {a ix b : AV} {v vi : Value} (h : indexOf X t a ix = some b) (hv : RV K a v) (hi : RV K ix vi) : PureOk P K (Instr.index t v vi) b := by
  unfold indexOf at h
  cases hk : asN ix with
  | none => simp [hk] at h
  | some k =>
    obtain ⟨ik, n, rfl, hn0, hnk⟩ := asN_spec hi hk
    simp only [hk] at h
    cases hu : X.und t with
    | none => simp [hu] at h
    | some d =>
      cases d <;> simp only [hu] at h <;> try (cases h; done)
      case array len e =>
        cases a <;> simp only [] at h <;> try (cases h; done)
        case agg cs =>
          obtain ⟨vs, rfl, hvs⟩ := hv.agg_inv
          cases hb : k.blt len with
          | false => simp [hb] at h
          | true =>
            have hlt := blt_of hb
            simp only [hb, cond_true] at h
            cases hs : X.size e with
            | none => simp [hs] at h
            | some sz =>
              simp only [hs] at h
              obtain ⟨v', h1, h2⟩ := part_ok ok h hvs
              have h3 : 0 ≤ n ∧ n < (len : Int) := ⟨hn0, by omega⟩
              exact ⟨v', fun w => by simp [Instr.index, asIntOf, ok.run_und hu, h3.1, h3.2, ok.run_size hs, hnk, h1], h2⟩
      case string =>
        cases a <;> simp only [] at h <;> try (cases h; done)
        case str s =>
          have := hv.str_inv
          subst this
          cases hb : s[k]? with
          | none => simp [hb] at h
          | some c =>
            simp only [hb, Option.some.injEq] at h
            subst h
            refine ⟨.int .u8 c.toNat, fun w => ?_, .int _ _⟩
            obtain ⟨hlt, h5⟩ := List.getElem?_eq_some_iff.1 hb
            have e : (⟨s.toArray⟩ : ByteArray)[k]? = some c := by
              have h4 : k < (⟨s.toArray⟩ : ByteArray).size := by simpa [ByteArray.size] using hlt
              rw [getElem?_pos (⟨s.toArray⟩ : ByteArray) k h4]
              show some (s.toArray[k]'(by simpa using hlt)) = some c
              simp [h5]
            simp [Instr.index, asIntOf, ok.run_und hu, hn0, hnk, e]

end
end Go.Aes
set_option linter.unusedVariables false
set_option linter.unusedSimpArgs false
namespace Go.Aes
open Go.RowKit

section
variable {X : Cx} {P : Program} {K : KC}

theorem slice?_spec {α : Type} {cs r : List α} {o n : Nat} (h : slice? cs o n = some r) : r = (cs.drop o).take n ∧ r.length = n ∧ (0 < n → o + n ≤ cs.length) := by
  unfold slice? at h
  simp only [] at h
  cases hb : ((cs.drop o).take n).length.beq n with
  | false => rw [hb] at h; cases h
  | true =>
    rw [hb] at h
    have := beq_of hb
    simp only [cond_true, Option.some.injEq] at h
    subst h
    refine ⟨rfl, this, fun h0 => ?_⟩
    simp at this
    omega

theorem slice?_get {α : Type} {cs r : List α} {o n : Nat} (h : slice? cs o n = some r) {j : Nat} (hj : j < n) : r[j]? = cs[o + j]? := by
  obtain ⟨rfl, _, _⟩ := slice?_spec h
  rw [List.getElem?_take, if_pos hj, List.getElem?_drop]

theorem setRange_spec {cs cs' vs : List AV} {o : Nat} (h : setRange cs o vs = some cs') :
    o + vs.length ≤ cs.length ∧ cs'.length = cs.length ∧ ∀ j, cs'[j]? = if o ≤ j ∧ j < o + vs.length then vs[j - o]? else cs[j]? := by
  unfold setRange at h
  cases hb : (o + vs.length).ble cs.length with
  | false => simp [hb] at h
  | true =>
    have hle := ble_of hb
    simp only [hb, cond_true, Option.some.injEq] at h
    subst h
    refine ⟨hle, by simp; omega, fun j => ?_⟩
    have hl1 : (cs.take o).length = o := by simp; omega
    by_cases h1 : j < o
    · rw [if_neg (by omega), List.append_assoc, List.getElem?_append_left (by omega), List.getElem?_take, if_pos h1]
    · by_cases h2 : j < o + vs.length
      · rw [if_pos ⟨by omega, h2⟩, List.append_assoc, List.getElem?_append_right (by omega), hl1, List.getElem?_append_left (by omega)]
      · rw [if_neg (by omega), List.getElem?_append_right (by simp; omega)]
        simp only [List.length_append, hl1, List.getElem?_drop]
        congr 1
        omega

/-- pointwise, as far as the abstract one goes -/
def PW (K : KC) (cs : List AV) (arr : Array Value) : Prop := cs.length ≤ arr.size ∧ ∀ (j : Nat) (a : AV) (v : Value), cs[j]? = some a → arr[j]? = some v → RV K a v

theorem PW.setRange {cs cs' vs : List AV} {o : Nat} (h : setRange cs o vs = some cs') {arr arr' : Array Value} {lv : List Value} (hp : PW K cs arr) (hl : RL K vs lv) (hs : arr'.size = arr.size)
    (ha : ∀ j, arr'[j]? = if o ≤ j ∧ j < o + lv.length then lv[j - o]? else arr[j]?) : PW K cs' arr' := by
  obtain ⟨h1, h2, h3⟩ := setRange_spec h
  refine ⟨by rw [h2, hs]; exact hp.1, fun j a v e e' => ?_⟩
  rw [h3] at e
  rw [ha, hl.len] at e'
  split at e
  · rename_i hc; rw [if_pos hc] at e'; exact hl.at_ _ a v e e'
  · rename_i hc; rw [if_neg hc] at e'; exact hp.2 j a v e e'

theorem fold_set (o : Nat) : ∀ (l : List Value) (k : Nat) (cs : Array Value), o + k + l.length ≤ cs.size →
    ((l.zipIdx k).foldl (fun cs p => cs.setIfInBounds (o + p.2) p.1) cs).size = cs.size ∧
    ∀ j, ((l.zipIdx k).foldl (fun cs p => cs.setIfInBounds (o + p.2) p.1) cs)[j]? = if o + k ≤ j ∧ j < o + k + l.length then l[j - (o + k)]? else cs[j]?
  | [], k, cs, h => ⟨rfl, fun j => by simp; intro h1 h2; omega⟩
  | x :: l, k, cs, h => by
    simp only [List.zipIdx_cons, List.foldl_cons]
    simp only [List.length_cons] at h
    obtain ⟨h1, h2⟩ := fold_set o l (k + 1) (cs.setIfInBounds (o + k) x) (by rw [Array.size_setIfInBounds]; omega)
    refine ⟨by rw [h1]; simp, fun j => ?_⟩
    rw [h2]
    by_cases e : j = o + k
    · subst e
      rw [if_neg (by omega), if_pos ⟨by omega, by simp⟩]
      have hlt : o + k < cs.size := by omega
      simp [hlt]
    · by_cases e1 : o + (k + 1) ≤ j ∧ j < o + (k + 1) + l.length
      · rw [if_pos e1, if_pos (by simp; omega)]
        have : j - (o + k) = (j - (o + (k + 1))) + 1 := by omega
        rw [this, List.getElem?_cons_succ]
      · rw [if_neg e1, if_neg (by simp; omega), Array.getElem?_setIfInBounds_ne (by omega)]

theorem fill_ok (place place' : Nat → Option (Nat × Nat)) (hp : ∀ i x, place i = some x → place' i = some x) : ∀ (parts : List (Nat × AV)) (parts' : List (Nat × Value)) (cs cs' : List AV) (arr : Array Value),
    fill place cs parts = some cs' → parts'.map (·.1) = parts.map (·.1) → RL K (parts.map (·.2)) (parts'.map (·.2)) → PW K cs arr → cs.length = arr.size →
    ∃ arr', Instr.fill place' arr parts' = some arr' ∧ PW K cs' arr' ∧ cs'.length = arr'.size
  | [], parts', cs, cs', arr, h, h1, h2, h3, h4 => by
    have : parts' = [] := by simpa using h1
    subst this
    simp [fill] at h
    subst h
    exact ⟨arr, rfl, h3, h4⟩
  | (i, v) :: rest, parts', cs, cs', arr, h, h1, h2, h3, h4 => by
    cases parts' with
    | nil => simp at h1
    | cons p parts' =>
      obtain ⟨i', v'⟩ := p
      simp only [List.map_cons, List.cons.injEq] at h1
      obtain ⟨rfl, h1⟩ := h1
      obtain ⟨v1, vs1, e1, hv, hvs⟩ := RL.cons_inv h2
      simp only [List.map_cons, List.cons.injEq] at e1
      obtain ⟨rfl, rfl⟩ := e1
      simp only [fill] at h
      cases hpl : place i' with
      | none => simp [hpl] at h
      | some x =>
        obtain ⟨o, n⟩ := x
        simp only [hpl] at h
        cases hb : (v.cells.length.beq n && allOne v.cells) with
        | false => simp [hb] at h
        | true =>
          simp only [hb, cond_true] at h
          cases hs : setRange cs o v.cells with
          | none => simp [hs] at h
          | some cs1 =>
            simp only [hs] at h
            obtain ⟨g1, g2, g3⟩ := setRange_spec hs
            have hl := hv.cells
            have hn := beq_of (Bool.and_eq_true_iff.1 hb).1
            have hsz : v'.cells.size = n := by have := hl.len; simp at this; omega
            obtain ⟨f1, f2⟩ := fold_set o v'.cells.toList 0 arr (by simp; omega)
            have hPW := PW.setRange (arr' := (v'.cells.toList.zipIdx 0).foldl (fun cs p => cs.setIfInBounds (o + p.2) p.1) arr) hs h3 hl f1 (fun j => by simpa using f2 j)
            obtain ⟨arr', k1, k2, k3⟩ := fill_ok place place' hp rest parts' cs1 cs' _ h h1 hvs hPW (by rw [g2, h4]; exact f1.symm)
            refine ⟨arr', ?_, k2, k3⟩
            rw [← k1]
            simp only [Instr.fill, hp _ _ hpl]
            have g4 : v'.cells.toList.length = v.cells.length := hl.len
            simp only [Array.length_toList] at g4
            have g5 := h4
            rw [if_neg (by simp only [Bool.or_eq_true, decide_eq_true_eq]; omega)]
            congr 1
            rw [← Array.foldl_toList]
            simp [Array.toList_zipIdx]

theorem PW.toRL {cs : List AV} {arr : Array Value} (h : PW K cs arr) (hl : cs.length = arr.size) : RL K cs arr.toList :=
  ⟨by simp [hl], fun j a v e e' => h.2 j a v e (by simpa using e')⟩
theorem RL.toPW {cs : List AV} {arr : Array Value} (h : RL K cs arr.toList) : PW K cs arr ∧ cs.length = arr.size := by
  have := h.len
  simp at this
  exact ⟨⟨by omega, fun j a v e e' => h.at_ j a v e (by simpa using e')⟩, this.symm⟩

theorem CxOk.zcells (ok : CxOk X P) {t : Nat} {z : List AV} (h : X.zero t = some z) (K : KC) : ∃ i v, P.info? t = some i ∧ i.zero = some v ∧ RL K z v.cells.toList := by
  obtain ⟨i, v, a, h1, h2, h3, h4, _⟩ := ok.zero t z h
  refine ⟨i, v, h1, h2, ?_⟩
  rw [← h4]
  exact (ofV_spec h3).cells

theorem build_ok (ok : CxOk X P) {t : Nat} {parts : List (Nat × AV)} {b : AV} {parts' : Array (Nat × Value)} (h : build X t parts = some b)
    (h1 : parts'.toList.map (·.1) = parts.map (·.1)) (h2 : RL K (parts.map (·.2)) (parts'.toList.map (·.2))) : PureOk P K (Instr.build t parts') b := by
  unfold build at h
  cases hz : X.zero t with
  | none => simp [hz] at h
  | some z =>
    obtain ⟨i, zv, hi, hzi, hzl⟩ := ok.zcells hz K
    obtain ⟨hz1, hz2⟩ := hzl.toPW
    simp only [hz] at h
    cases hu : X.und t with
    | none => simp [hu] at h
    | some d =>
      cases d <;> simp only [hu] at h <;> try (cases h; done)
      case array len e =>
        cases hs : X.size e with
        | none => simp [hs] at h
        | some n =>
          simp only [hs] at h
          obtain ⟨cs, hf, rfl⟩ := Option.map_eq_some_iff.1 h
          obtain ⟨ie, hie, hn⟩ := ok.size e n hs
          obtain ⟨arr', g1, g2, g3⟩ := fill_ok (K := K) _ (fun i => some (i * n, n)) (fun _ _ h => h) parts parts'.toList z cs zv.cells hf h1 h2 hz1 hz2
          refine ⟨.agg arr', fun w => run_build w t parts' arr' ?_, ?_⟩
          · simp [Program.built, hi, ok.und _ _ hu, hzi, hie, hn, g1]
          · simpa using (g2.toRL g3).agg
      case struct fs =>
        obtain ⟨cs, hf, rfl⟩ := Option.map_eq_some_iff.1 h
        have hall : ∃ places : List (Nat × Nat), fs.toList.mapM (fun f => (P.info? f.type).map fun i => (f.offset, i.size)) = some places ∧
            ∀ (i : Nat) (x : Nat × Nat), (match fs.toList[i]? with | some (f : Field) => (match X.size f.type with | some n => some (f.offset, n) | none => none) | none => none) = some x → places[i]? = some x := by
          have hfs := ok.fields t fs hu
          generalize fs.toList = l at hfs
          induction l with
          | nil => exact ⟨[], rfl, fun i x h => by simp at h⟩
          | cons f l ih =>
            obtain ⟨places, p1, p2⟩ := ih (fun f' hf' => hfs f' (List.mem_cons_of_mem _ hf'))
            obtain ⟨n, hn⟩ := hfs f (List.mem_cons_self ..)
            obtain ⟨ie, hie, hne⟩ := ok.size _ _ hn
            refine ⟨(f.offset, n) :: places, by simp [List.mapM_cons, hie, hne, p1], fun i x h => ?_⟩
            cases i with
            | zero => simp [hn] at h; subst h; rfl
            | succ i => simp only [List.getElem?_cons_succ] at h ⊢; exact p2 i x h
        obtain ⟨places, p1, p2⟩ := hall
        obtain ⟨arr', g1, g2, g3⟩ := fill_ok (K := K) _ (places.toArray[·]?) (fun i x hx => by simpa using p2 i x hx) parts parts'.toList z cs zv.cells hf h1 h2 hz1 hz2
        refine ⟨.agg arr', fun w => run_build w t parts' arr' ?_, ?_⟩
        · simp only [Program.built, hi, ok.und _ _ hu, hzi, p1, g1]
        · simpa using (g2.toRL g3).agg

end
end Go.Aes
set_option linter.unusedVariables false
set_option linter.unusedSimpArgs false
namespace Go.Aes
open Go.RowKit

section
variable {X : Cx} {P : Program} {K : KC}

/-! ### slices of what there is -/
/-- optional operands -/
inductive RO' (K : KC) : Option AV → Option Value → Prop where
  | none : RO' K none none
  | some (a : AV) (v : Value) (h : RV K a v) : RO' K (some a) (some v)

theorem bnd_spec {x : Option AV} {v : Option Value} {d m k : Nat} (h : bnd x d m = some k) (hv : RO' K x v) :
    (v = none ∧ k = d) ∨ (∃ ik n, v = some (.int ik n) ∧ 0 ≤ n ∧ n.toNat = k ∧ k ≤ m) := by
  cases hv with
  | none => simp [bnd] at h; exact .inl ⟨rfl, h.symm⟩
  | some a v hv =>
    simp only [bnd] at h
    cases hk : asN a with
    | none => simp [hk] at h
    | some k' =>
      simp only [hk] at h
      cases hb : k'.ble m with
      | false => simp [hb] at h
      | true =>
        simp [hb] at h
        subst h
        obtain ⟨ik, n, rfl, h1, h2⟩ := asN_spec hv hk
        exact .inr ⟨ik, n, rfl, h1, h2, ble_of hb⟩

theorem run_sliceBound {P : Program} {ik : IntKind} {n : Int} {y : Nat} {code : BoundsCode} (h0 : 0 ≤ n) (h1 : n.toNat ≤ y) (w : World) : (Instr.sliceBound (.int ik n) y code).run P w = .ok n.toNat w := by
  have h2 : 0 ≤ n ∧ n ≤ (y : Int) := ⟨h0, by omega⟩
  simp [Instr.sliceBound, asIntOf, h2.1, h2.2]

/-- the bounds, no third one -/
theorem run_bounds2 {P : Program} {isS : Bool} {len cap h l : Nat} {hi lo : Option AV} {vhi vlo : Option Value} (hh : bnd hi len len = some h) (hl : bnd lo 0 h = some l)
    (hvh : RO' K hi vhi) (hvl : RO' K lo vlo) (hc : len ≤ cap) (w : World) : (Instr.sliceBounds isS len cap vlo vhi none).run P w = .ok (l, h, cap) w ∧ l ≤ h ∧ h ≤ len := by
  have hhl : h ≤ len := by
    rcases bnd_spec hh hvh with ⟨rfl, rfl⟩ | ⟨ik, n, rfl, h0, h1, h2⟩ <;> omega
  have hll : l ≤ h := by
    rcases bnd_spec hl hvl with ⟨rfl, rfl⟩ | ⟨ik, n, rfl, h0, h1, h2⟩ <;> omega
  refine ⟨?_, hll, hhl⟩
  rcases bnd_spec hh hvh with ⟨rfl, rfl⟩ | ⟨ik, n, rfl, h0, h1, h2⟩
  · rcases bnd_spec hl hvl with ⟨rfl, rfl⟩ | ⟨ik, n, rfl, h0, h1, h2⟩
    · simp [Instr.sliceBounds]
    · simp [Instr.sliceBounds, run_sliceBound h0 (by omega : n.toNat ≤ h), h1]
  · rcases bnd_spec hl hvl with ⟨rfl, rfl⟩ | ⟨ik', n', rfl, h0', h1', h2'⟩
    · simp [Instr.sliceBounds, run_sliceBound h0 (by omega : n.toNat ≤ cap), h1]
    · simp [Instr.sliceBounds, run_sliceBound h0 (by omega : n.toNat ≤ cap), h1, run_sliceBound h0' (by omega : n'.toNat ≤ h), h1']

theorem run_bounds2' {P : Program} {isS : Bool} {len cap c h l : Nat} {hi lo : Option AV} {vhi vlo : Option Value} (hh : bnd hi len c = some h) (hl : bnd lo 0 h = some l)
    (hvh : RO' K hi vhi) (hvl : RO' K lo vlo) (hc : c ≤ cap) (hlc : len ≤ c) (w : World) : (Instr.sliceBounds isS len cap vlo vhi none).run P w = .ok (l, h, cap) w ∧ l ≤ h ∧ h ≤ c := by
  have hhl : h ≤ c := by
    rcases bnd_spec hh hvh with ⟨rfl, rfl⟩ | ⟨ik, n, rfl, h0, h1, h2⟩ <;> omega
  have hll : l ≤ h := by
    rcases bnd_spec hl hvl with ⟨rfl, rfl⟩ | ⟨ik, n, rfl, h0, h1, h2⟩ <;> omega
  refine ⟨?_, hll, hhl⟩
  rcases bnd_spec hh hvh with ⟨rfl, rfl⟩ | ⟨ik, n, rfl, h0, h1, h2⟩
  · rcases bnd_spec hl hvl with ⟨rfl, rfl⟩ | ⟨ik, n, rfl, h0, h1, h2⟩
    · simp [Instr.sliceBounds]
    · simp [Instr.sliceBounds, run_sliceBound h0 (by omega : n.toNat ≤ h), h1]
  · rcases bnd_spec hl hvl with ⟨rfl, rfl⟩ | ⟨ik', n', rfl, h0', h1', h2'⟩
    · simp [Instr.sliceBounds, run_sliceBound h0 (by omega : n.toNat ≤ cap), h1]
    · simp [Instr.sliceBounds, run_sliceBound h0 (by omega : n.toNat ≤ cap), h1, run_sliceBound h0' (by omega : n'.toNat ≤ h), h1']

theorem run_bounds3 {P : Program} {len cap c m h l : Nat} {mx hi : AV} {vmx vhi : Value} {lo : Option AV} {vlo : Option Value} (hm : bnd (some mx) 0 c = some m) (hh : bnd (some hi) 0 m = some h)
    (hl : bnd lo 0 h = some l) (hvm : RV K mx vmx) (hvh : RV K hi vhi) (hvl : RO' K lo vlo) (hc : c ≤ cap) (w : World) :
    (Instr.sliceBounds true len cap vlo (some vhi) (some vmx)).run P w = .ok (l, h, m) w ∧ l ≤ h ∧ h ≤ m ∧ m ≤ c := by
  rcases bnd_spec hm (.some _ _ hvm) with ⟨hx, _⟩ | ⟨ik, n, hx, h0, h1, h2⟩
  · cases hx
  rcases bnd_spec hh (.some _ _ hvh) with ⟨hy, _⟩ | ⟨ik', n', hy, h0', h1', h2'⟩
  · cases hy
  injection hx with hx; injection hy with hy
  subst hx; subst hy
  have hll : l ≤ h := by
    rcases bnd_spec hl hvl with ⟨rfl, rfl⟩ | ⟨ik, n, rfl, h0, h1, h2⟩ <;> omega
  refine ⟨?_, hll, h2', h2⟩
  rcases bnd_spec hl hvl with ⟨rfl, rfl⟩ | ⟨ik3, n3, rfl, h03, h13, h23⟩
  · simp [Instr.sliceBounds, run_sliceBound h0 (by omega : n.toNat ≤ cap), h1, run_sliceBound h0' (by omega : n'.toNat ≤ m), h1']
  · simp [Instr.sliceBounds, run_sliceBound h0 (by omega : n.toNat ≤ cap), h1, run_sliceBound h0' (by omega : n'.toNat ≤ m), h1', run_sliceBound h03 (by omega : n3.toNat ≤ h), h13]

/-- a cut of rows lies where it lay -/
theorem RV.cut {rows : List (List AV)} {tk' : Tk} {b d sz l h c' : Nat} {cv : Nat → Value} (h0 : 0 < sz) (hr : ∀ r, r ∈ rows → r.length = sz)
    (hF : ∀ (i : Nat) (r : List AV) (j : Nat) (a : AV), rows[i]? = some r → r[j]? = some a → K.F b (d + i * sz + j) = some (cv (i * sz + j)))
    (hv : ∀ (i : Nat) (r : List AV) (j : Nat) (a : AV), rows[i]? = some r → r[j]? = some a → RV K a (cv (i * sz + j)))
    (hl : l ≤ h) (hh : h ≤ rows.length) (hc : h - l ≤ c') (ht : TkR K tk' b (d + l * sz + (h - l) * sz) (d + l * sz + c' * sz) sz (h - l) c') :
    RV K (.sl ((rows.take h).drop l) tk') (.slice (some ⟨b, d + l * sz, none⟩) (h - l) c') := by
  have hlen : ((rows.take h).drop l).length = h - l := by simp; omega
  have key : ∀ (i : Nat) (r : List AV), ((rows.take h).drop l)[i]? = some r → rows[l + i]? = some r := by
    intro i r e
    rw [List.getElem?_drop, List.getElem?_take] at e
    split at e
    · exact e
    · cases e
  have := RV.sl (K := K) ((rows.take h).drop l) tk' b (d + l * sz) c' sz (fun j => cv (l * sz + j)) h0
    (fun r hr' => hr r (List.mem_of_mem_take (List.mem_of_mem_drop hr')))
    (fun i r j a e e' => by
      have := hF (l + i) r j a (key i r e) e'
      rw [Nat.add_mul] at this
      rw [show d + l * sz + i * sz + j = d + (l * sz + i * sz) + j by omega, this]
      congr 1; congr 1; omega)
    (fun i r j a e e' => by
      have := hv (l + i) r j a (key i r e) e'
      rw [Nat.add_mul] at this
      rw [show l * sz + (i * sz + j) = l * sz + i * sz + j by omega]; exact this)
    (by rw [hlen]; exact hc) (by rw [hlen]; exact ht)
  rw [hlen] at this
  exact this

theorem sliceOp_ok (ok : CxOk X P) {t : Nat} {x b : AV} {lo hi mx : Option AV} {v : Value} {vlo vhi vmx : Option Value} (h : sliceOp X t x lo hi mx = some b)
    (hx : RV K x v) (hlo : RO' K lo vlo) (hhi : RO' K hi vhi) (hmx : RO' K mx vmx) : PureOk P K (Instr.sliceAt t v vlo vhi vmx) b := by
  unfold sliceOp at h
  cases hu : X.und t with
  | none => simp [hu] at h
  | some d =>
    simp only [hu] at h
    cases d <;> (try simp only [] at h) <;> try (cases h; done)
    case string =>
      cases x <;> (try simp only [] at h) <;> try (cases h; done)
      case str s =>
        have := hx.str_inv
        subst this
        cases hmx with
        | some a v hm => simp at h
        | none =>
          simp only [] at h
          cases hh : bnd hi s.length s.length with
          | none => simp [hh] at h
          | some hN =>
            simp only [hh] at h
            cases hl : bnd lo 0 hN with
            | none => simp [hl] at h
            | some l =>
              simp only [hl, Option.some.injEq] at h
              subst h
              have hr := fun w => (run_bounds2 (P := P) (isS := false) (cap := s.length) hh hl hhi hlo (Nat.le_refl _) w).1
              obtain ⟨_, hle, hle2⟩ := run_bounds2 (P := P) (isS := false) (cap := s.length) hh hl hhi hlo (Nat.le_refl _) default
              have hsz : (⟨s.toArray⟩ : ByteArray).size = s.length := by simp [ByteArray.size]
              refine ⟨.string ((⟨s.toArray⟩ : ByteArray).extract l hN), fun w => ?_, ?_⟩
              · simp [Instr.sliceAt, Instr.slice, ok.run_und hu, hsz, hr]
              · have e : (⟨s.toArray⟩ : ByteArray).extract l hN = ⟨((s.take hN).drop l).toArray⟩ := by
                  apply ByteArray.ext
                  simp [ByteArray.data_extract]
                  rw [List.drop_take]
                rw [e]; exact .str _
    case array n e =>
      cases x <;> (try simp only [] at h) <;> try (cases h; done)
      case ptr i o =>
        cases hmx with
        | some a v hm => simp at h
        | none =>
          cases hs : X.size e with
          | none => simp [hs] at h
          | some sz =>
            simp only [hs] at h
            cases hh : bnd hi n n with
            | none => simp [hh] at h
            | some hN =>
              simp only [hh] at h
              cases hl : bnd lo 0 hN with
              | none => simp [hl] at h
              | some l =>
                simp only [hl, Option.some.injEq] at h
                subst h
                have hr := fun w => (run_bounds2 (P := P) (isS := false) (cap := n) hh hl hhi hlo (Nat.le_refl _) w).1
                obtain ⟨_, hle, hle2⟩ := run_bounds2 (P := P) (isS := false) (cap := n) hh hl hhi hlo (Nat.le_refl _) default
                cases hx with
                | ptr i o b z hm =>
                  refine ⟨.slice (some (if n = l then ⟨b, o, none⟩ else (⟨b, o, none⟩ : Addr).add (l * sz))) (hN - l) (n - l), fun w => ?_, ?_⟩
                  · simp [Instr.sliceAt, ok.run_und hu, Instr.sureAddr, hr, ok.run_size hs]
                  · by_cases e1 : n = l
                    · rw [if_pos e1]
                      exact .hsl i _ o _ _ _ b z sz false hm (by omega) (Nat.le_refl _) (fun h => by cases h) (.inr (by omega))
                    · rw [if_neg e1, add_plain]
                      exact .hsl i _ _ _ _ _ b z sz false hm (by omega) (Nat.le_refl _) (fun h => by cases h) (.inl rfl)
    case slice e =>
      cases x <;> (try simp only [] at h) <;> try (cases h; done)
      case sl rows tk =>
        cases hs : X.size e with
        | none => simp [hs] at h
        | some sE =>
        simp only [hs] at h
        cases hb : headOk rows sE with
        | false => simp [hb] at h
        | true =>
        simp only [hb, Bool.not_true, cond_false] at h
        have hsz : ∀ {sz l : Nat}, (∀ r, r ∈ rows → r.length = sz) → l ≤ rows.length → l * sE = l * sz := by
          intro sz l hr hl
          cases rows with
          | nil => have : l = 0 := by simpa using hl
                   subst this; simp
          | cons r rs =>
            have e1 : r.length = sE := beq_of hb
            have e2 := hr r (List.mem_cons_self ..)
            rw [← e1, e2]
        cases hmx with
        | none =>
          simp only [] at h
          cases hh : bnd hi rows.length rows.length with
          | none => simp [hh] at h
          | some hN =>
            simp only [hh] at h
            cases hl : bnd lo 0 hN with
            | none => simp [hl] at h
            | some l =>
              simp only [hl, Option.some.injEq] at h
              subst h
              cases hx with
              | slNil =>
                have hr := fun w => (run_bounds2 (P := P) (isS := true) (cap := 0) hh hl hhi hlo (Nat.le_refl _) w).1
                obtain ⟨_, hle, hle2⟩ := run_bounds2 (P := P) (isS := true) (cap := 0) hh hl hhi hlo (Nat.le_refl _) default
                simp at hle2
                subst hle2
                have hl0 : l = 0 := by omega
                subst hl0
                simp at hr
                refine ⟨.slice none 0 0, fun w => ?_, ?_⟩
                · simp [Instr.sliceAt, Instr.slice, ok.run_und hu, hr, ok.run_size hs]
                · simpa [cutTk] using RV.slNil
              | slE p tk ht =>
                have hr := fun w => (run_bounds2 (P := P) (isS := true) (cap := 0) hh hl hhi hlo (Nat.le_refl _) w).1
                obtain ⟨_, hle, hle2⟩ := run_bounds2 (P := P) (isS := true) (cap := 0) hh hl hhi hlo (Nat.le_refl _) default
                simp at hle2
                subst hle2
                have hl0 : l = 0 := by omega
                subst hl0
                simp at hr
                refine ⟨.slice (some p) 0 0, fun w => ?_, ?_⟩
                · simp [Instr.sliceAt, Instr.slice, ok.run_und hu, hr, ok.run_size hs]
                · rcases ht with rfl | rfl
                  · simpa [cutTk] using RV.slE p .dead (.inl rfl)
                  · simpa [cutTk] using RV.slE p .full (.inr rfl)
              | sl rows tk b d c sz cv h0 hr hF hv hc ht =>
                have hrun := fun w => (run_bounds2 (P := P) (isS := true) (cap := c) hh hl hhi hlo hc w).1
                obtain ⟨_, hle, hle2⟩ := run_bounds2 (P := P) (isS := true) (cap := c) hh hl hhi hlo hc default
                have hmul := hsz (l := l) hr (by omega)
                by_cases e1 : c = l
                · -- nothing is left: it lies where it lay
                  refine ⟨.slice (some ⟨b, d, none⟩) (hN - l) (c - l), fun w => ?_, ?_⟩
                  · simp only [Instr.sliceAt, Instr.slice, Sem.run_bind, ok.run_und hu, hrun, ok.run_size hs, Result.andThen_ok, Sem.run_pure, if_pos e1]
                  · have e2 : hN - l = 0 := by omega
                    have e3 : c - l = 0 := by omega
                    have e4 : (rows.take hN).drop l = [] := by apply List.eq_nil_of_length_eq_zero; simp; omega
                    rw [e2, e3, e4]
                    refine .sl [] _ b d 0 sz cv h0 (fun r hr => by cases hr) (fun i r j a e => by simp at e) (fun i r j a e => by simp at e) (Nat.le_refl _) ?_
                    cases tk with
                    | nil => exact ht.elim
                    | dead => trivial
                    | full => simp only [cutTk]; cases hN.beq rows.length <;> simp [TkR]
                    | own t => simp only [cutTk]; cases hq : (hN.beq rows.length && l.blt hN) with
                      | false => simp [TkR]
                      | true => have := blt_of (Bool.and_eq_true_iff.1 hq).2; omega
                · refine ⟨.slice (some ⟨b, d + l * sz, none⟩) (hN - l) (c - l), fun w => ?_, ?_⟩
                  · simp [Instr.sliceAt, Instr.slice, ok.run_und hu, hrun, ok.run_size hs, e1, add_plain, hmul]
                  · refine RV.cut h0 hr hF hv hle hle2 (by omega) ?_
                    cases tk with
                    | nil => exact ht.elim
                    | dead => trivial
                    | full =>
                      simp only [cutTk]
                      cases hq : hN.beq rows.length with
                      | false => trivial
                      | true => have := beq_of hq; have ht' : rows.length = c := ht; simp [TkR]; omega
                    | own t =>
                      simp only [cutTk]
                      cases hq : (hN.beq rows.length && l.blt hN) with
                      | false => trivial
                      | true =>
                        have := beq_of (Bool.and_eq_true_iff.1 hq).1
                        have ht' : K.τ t = some (b, d + rows.length * sz, d + c * sz, sz) := ht
                        simp only [cond_true, TkR, ht']
                        have hx1 : l * sz + (hN - l) * sz = rows.length * sz := by rw [← Nat.add_mul]; congr 1; omega
                        have hx2 : l * sz + (c - l) * sz = c * sz := by rw [← Nat.add_mul]; congr 1; omega
                        rw [← hx1, ← hx2]
                        simp [Nat.add_assoc]
        | some a v hm =>
          simp only [] at h
          cases hmm : bnd (some a) 0 rows.length with
          | none => simp [hmm] at h
          | some m =>
            simp only [hmm] at h
            cases hhi with
            | none => simp at h
            | some ah vh hvh =>
              simp only [] at h
              cases hh : bnd (some ah) 0 m with
              | none => simp [hh] at h
              | some hN =>
                simp only [hh] at h
                cases hl : bnd lo 0 hN with
                | none => simp [hl] at h
                | some l =>
                  simp only [hl, Option.some.injEq] at h
                  subst h
                  cases hx with
                  | slNil =>
                    have hr := fun w => (run_bounds3 (P := P) (len := 0) (cap := 0) (hi := ah) (mx := a) hmm hh hl hm hvh hlo (Nat.le_refl _) w).1
                    obtain ⟨_, hle, hle2, hle3⟩ := run_bounds3 (P := P) (len := 0) (cap := 0) (hi := ah) (mx := a) hmm hh hl hm hvh hlo (Nat.le_refl _) default
                    simp at hle3
                    subst hle3
                    have hN0 : hN = 0 := by omega
                    subst hN0
                    have hl0 : l = 0 := by omega
                    subst hl0
                    refine ⟨.slice none 0 0, fun w => ?_, ?_⟩
                    · simp [Instr.sliceAt, Instr.slice, ok.run_und hu, hr, ok.run_size hs]
                    · simpa [cutTk3] using RV.slNil
                  | slE p tk ht =>
                    have hr := fun w => (run_bounds3 (P := P) (len := 0) (cap := 0) (hi := ah) (mx := a) hmm hh hl hm hvh hlo (Nat.le_refl _) w).1
                    obtain ⟨_, hle, hle2, hle3⟩ := run_bounds3 (P := P) (len := 0) (cap := 0) (hi := ah) (mx := a) hmm hh hl hm hvh hlo (Nat.le_refl _) default
                    simp at hle3
                    subst hle3
                    have hN0 : hN = 0 := by omega
                    subst hN0
                    have hl0 : l = 0 := by omega
                    subst hl0
                    refine ⟨.slice (some p) 0 0, fun w => ?_, ?_⟩
                    · simp [Instr.sliceAt, Instr.slice, ok.run_und hu, hr, ok.run_size hs]
                    · rcases ht with rfl | rfl <;> simpa [cutTk3] using RV.slE p .full (.inr rfl)
                  | sl rows tk b d c sz cv h0 hr hF hv hc ht =>
                    have hrun := fun w => (run_bounds3 (P := P) (len := rows.length) (cap := c) (hi := ah) (mx := a) hmm hh hl hm hvh hlo hc w).1
                    obtain ⟨_, hle, hle2, hle3⟩ := run_bounds3 (P := P) (len := rows.length) (cap := c) (hi := ah) (mx := a) hmm hh hl hm hvh hlo hc default
                    have hmul := hsz (l := l) hr (by omega)
                    have htk : ∀ (e z : Nat), TkR K (cutTk3 tk hN m) b e z sz (hN - l) (m - l) := by
                      intro e z
                      cases tk with
                      | nil => exact ht.elim
                      | _ =>
                        simp only [cutTk3]
                        cases hq : hN.beq m with
                        | false => trivial
                        | true => have := beq_of hq; simp [TkR]; omega
                    by_cases e1 : m = l
                    · refine ⟨.slice (some ⟨b, d, none⟩) (hN - l) (m - l), fun w => ?_, ?_⟩
                      · simp only [Instr.sliceAt, Instr.slice, Sem.run_bind, ok.run_und hu, hrun, ok.run_size hs, Result.andThen_ok, Sem.run_pure, if_pos e1]
                      · have e2 : hN - l = 0 := by omega
                        have e3 : m - l = 0 := by omega
                        have e4 : (rows.take hN).drop l = [] := by apply List.eq_nil_of_length_eq_zero; simp; omega
                        have htk' := htk (d + 0 * sz) (d + 0 * sz)
                        rw [e2, e3] at htk'
                        rw [e2, e3, e4]
                        exact .sl [] _ b d 0 sz cv h0 (fun r hr => by cases hr) (fun i r j a e => by simp at e) (fun i r j a e => by simp at e) (Nat.le_refl _) htk'
                    · refine ⟨.slice (some ⟨b, d + l * sz, none⟩) (hN - l) (m - l), fun w => ?_, ?_⟩
                      · simp [Instr.sliceAt, Instr.slice, ok.run_und hu, hrun, ok.run_size hs, e1, add_plain, hmul]
                      · exact RV.cut h0 hr hF hv hle (by omega) (by omega) (htk _ _)
      case hsl i o n c sz g =>
        cases hmx with
        | some a v hm => cases X.size e <;> simp at h
        | none =>
          cases hs : X.size e with
          | none => simp [hs] at h
          | some sE =>
            simp only [hs] at h
            cases hb : sE.beq sz with
            | false => simp [hb] at h
            | true =>
              have hE := beq_of hb
              subst hE
              simp only [hb, cond_true] at h
              cases hh : bnd hi n c with
              | none => simp [hh] at h
              | some hN =>
                simp only [hh] at h
                cases hl : bnd lo 0 hN with
                | none => simp [hl] at h
                | some l =>
                  simp only [hl, Option.some.injEq] at h
                  subst h
                  cases hx with
                  | hsl i o o' n c c' b z sz g hm hn hc hz ho =>
                    have hr := fun w => (run_bounds2' (P := P) (isS := true) (cap := c') hh hl hhi hlo hc hn w).1
                    obtain ⟨_, hle, hle2⟩ := run_bounds2' (P := P) (isS := true) (cap := c') hh hl hhi hlo hc hn default
                    refine ⟨.slice (if c' = l then some ⟨b, o', none⟩ else some ((⟨b, o', none⟩ : Addr).add (l * sE))) (hN - l) (c' - l), fun w => ?_, ?_⟩
                    · simp [Instr.sliceAt, Instr.slice, ok.run_und hu, hr, ok.run_size hs]
                    · have hzz : g = true → o + l * sE + (c' - l) * sE ≤ z := fun hg => by
                        have := hz hg
                        have hx1 : l * sE + (c' - l) * sE = c' * sE := by rw [← Nat.add_mul]; congr 1; omega
                        omega
                      by_cases e1 : c' = l
                      · rw [if_pos e1]
                        exact .hsl i _ o' _ _ _ b z sE g hm (by omega) (by omega) hzz (.inr (by omega))
                      · rw [if_neg e1, add_plain]
                        refine .hsl i _ _ _ _ _ b z sE g hm (by omega) (by omega) hzz (.inl ?_)
                        rw [ho.resolve_right (by omega)]

end
end Go.Aes
set_option linter.unusedVariables false
set_option linter.unusedSimpArgs false
namespace Go.Aes
open Go.RowKit

theorem eqL_spec : ∀ a b : List UInt8, eqL a b = (a == b)
  | [], [] => rfl
  | [], _ :: _ => rfl
  | _ :: _, [] => rfl
  | x :: a, y :: b => by
    have h : x.toNat.beq y.toNat = (x == y) := by
      rw [Bool.eq_iff_iff]
      simp [UInt8.toNat_inj]
    simp [eqL, eqL_spec a b, h]

theorem lessL_spec : ∀ a b : List UInt8, lessL a b = Op.bytesLess a b
  | a, [] => by cases a <;> rfl
  | [], _ :: _ => rfl
  | x :: a, y :: b => by
    have h : x.toNat.beq y.toNat = (x == y) := by
      rw [Bool.eq_iff_iff]
      simp [UInt8.toNat_inj]
    have h2 : x.toNat.blt y.toNat = decide (x < y) := by
      rw [Bool.eq_iff_iff]
      simp [Nat.blt_eq, UInt8.lt_iff_toNat_lt]
    simp [lessL, Op.bytesLess, lessL_spec a b, h, h2]

section
variable {X : Cx} {P : Program} {K : KC}

theorem mk_append (a b : List UInt8) : (⟨a.toArray⟩ : ByteArray) ++ ⟨b.toArray⟩ = ⟨(a ++ b).toArray⟩ := by
  apply ByteArray.ext
  simp [ByteArray.data_append]

theorem strOp_ok {op : BinOp} {a b : List UInt8} {r : AV} (h : strOp op a b = some r) : PureOk P K (Op.stringOp op ⟨a.toArray⟩ ⟨b.toArray⟩) r := by
  have sa : (⟨a.toArray⟩ : ByteArray).size = a.length := by simp [ByteArray.size]
  have sb : (⟨b.toArray⟩ : ByteArray).size = b.length := by simp [ByteArray.size]
  cases op <;> simp only [strOp] at h <;> (try (cases h; done)) <;> (try (injection h with h; subst h; refine ⟨_, fun w => rfl, ?_⟩; simp only [ByteArray.toList_mk, eqL_spec, lessL_spec]; exact .bool _))
  cases hb : (a.length + b.length).blt most with
  | false => simp [hb] at h
  | true =>
    have hlt := blt_of hb
    simp only [hb, cond_true, Option.some.injEq] at h
    subst h
    refine ⟨.string ⟨(a ++ b).toArray⟩, fun w => ?_, .str _⟩
    have hmax : IntKind.i64.max = 9223372036854775807 := rfl
    have hm : most = 100000000000000 := rfl
    simp only [Op.stringOp, sa, sb]
    rw [if_neg (by rw [hmax]; omega), mk_append]
    rfl

def GuardFree (a b : Value) : Prop := ¬ (∃ x y, a = .agg x ∧ b = .agg y) ∧ ¬ (a = .nilIface ∧ b = .nilIface)

theorem run_eqGuard {op : BinOp} {t : Nat} {x y : Operand} {a b : Value} (h : GuardFree a b) (w : World) : (eqGuard op t x y a b).run P w = .ok () w := by
  unfold eqGuard
  obtain ⟨h1, h2⟩ := h
  cases op <;> try rfl
  all_goals
    cases a <;> (try rfl) <;> cases b <;> first | rfl | exact absurd ⟨_, _, rfl, rfl⟩ h1 | exact absurd ⟨rfl, rfl⟩ h2

theorem run_equal {t : Nat} {d : TypeDesc} {a b : Value} {r : Bool} (hd : P.underlying t = some d) (h : ∀ w, (Op.equalIn (9999 + 1) t a b).run P w = .ok r w) (w : World) :
    (Op.equal t a b).run P w = .ok r w := h w

theorem TkR.nil_false {b e z sz n c : Nat} (h : TkR K .nil b e z sz n c) : False := h

theorem refEq_ok (ok : CxOk X P) {t : Nat} {d : TypeDesc} {x y : AV} {vx vy : Value} {r : Bool} (hu : X.und t = some d) (h : refEq d x y = some r) (hx : RV K x vx) (hy : RV K y vy) :
    (∀ w, (Op.equal t vx vy).run P w = .ok r w) ∧ GuardFree vx vy := by
  suffices hs : (∀ D w, (Op.equalIn (D + 1) t vx vy).run P w = .ok r w) ∧ GuardFree vx vy from ⟨fun w => hs.1 9999 w, hs.2⟩
  unfold refEq at h
  have und := fun w => ok.run_und hu w
  split at h <;> (try (cases h; done)) <;> (injection h with h; subst h; cases hx <;> cases hy) <;>
    (try (rename_i ht; exact (TkR.nil_false ht).elim)) <;> (try (rename_i ht; rcases ht with h | h <;> cases h <;> done)) <;> (try (rename_i ht _ _; rcases ht with h | h <;> cases h <;> done)) <;> refine ⟨fun D w => ?_, by simp [GuardFree]⟩ <;>
    simp only [Op.equalIn, Sem.run_bind, und, Result.andThen_ok, Sem.run_pure, Option.isNone_none, Option.isNone_some]

theorem binop_ok (ok : CxOk X P) {op : BinOp} {t : Nat} {ox oy : Operand} {x y r : AV} {vx vy : Value} (h : binop X op t x y = some r) (hx : RV K x vx) (hy : RV K y vy) :
    PureOk P K (do eqGuard op t ox oy vx vy; Go.binOp op t vx vy) r := by
  have fin : ∀ {s : Sem Value} {r : AV}, GuardFree vx vy → PureOk P K s r → PureOk P K (do eqGuard op t ox oy vx vy; s) r := by
    intro s r hg ⟨v, h1, h2⟩
    exact ⟨v, fun w => by rw [Sem.run_bind, run_eqGuard hg]; exact h1 w, h2⟩
  have other : ∀ d, X.und t = some d → (match (generalizing := false) op with
      | .eql => (refEq d x y).map AV.bool
      | .neq => (refEq d x y).map fun b => AV.bool (!b)
      | _ => none) = some r → (∀ o a b, ¬ (vx = .int o a ∧ ∃ o', vy = .int o' b)) → (∀ a b, ¬ (vx = .string a ∧ vy = .string b)) → PureOk P K (do eqGuard op t ox oy vx vy; Go.binOp op t vx vy) r := by
    intro d hu h n1 n2
    cases op <;> simp only [] at h <;> (try (cases h; done))
    all_goals
      obtain ⟨b, hb, rfl⟩ := Option.map_eq_some_iff.1 h
      obtain ⟨h1, h2⟩ := refEq_ok ok hu hb hx hy
    · refine fin h2 ⟨.bool b, fun w => ?_, .bool _⟩
      have : Go.binOp .eql t vx vy = (do pure (.bool (← Op.equal t vx vy)) : Sem Value) := by
        unfold refEq at hb
        split at hb <;> (try (cases hb; done)) <;> cases hx <;> cases hy <;> rfl
      rw [this, Sem.run_bind, h1]; rfl
    · refine fin h2 ⟨.bool (!b), fun w => ?_, .bool _⟩
      have : Go.binOp .neq t vx vy = (do pure (.bool (!(← Op.equal t vx vy))) : Sem Value) := by
        unfold refEq at hb
        split at hb <;> (try (cases hb; done)) <;> cases hx <;> cases hy <;> rfl
      rw [this, Sem.run_bind, h1]; rfl
  unfold binop at h
  split at h
  · -- two strings
    have e1 := hx.str_inv; have e2 := hy.str_inv
    subst e1; subst e2
    refine fin (by simp [GuardFree]) ?_
    have := strOp_ok (P := P) (K := K) h
    cases op <;> exact this
  · have e1 := hx.int_inv; have e2 := hy.int_inv
    subst e1; subst e2
    exact fin (by simp [GuardFree]) (ofSem_spec h)
  · rename_i n1 n2
    cases hu : X.und t with
    | none => simp [hu] at h
    | some d =>
      simp only [hu] at h
      refine other d hu h ?_ ?_
      · rintro o a b ⟨rfl, o', rfl⟩
        cases hx; cases hy
        exact n2 _ _ _ _ rfl rfl
      · rintro a b ⟨rfl, rfl⟩
        cases hx; cases hy
        exact n1 _ _ rfl rfl

theorem unop_ok {op : UnOp} {x r : AV} {v v0 : Value} (hs : scal x = some v0) (h : ofSem (Op.unary op v0) = some r) (hx : RV K x v) : PureOk P K (Op.unary op v) r := by
  have := scal_spec hx hs
  subst this
  exact ofSem_spec h

theorem conv_ok (ok : CxOk X P) {s d : Nat} {x r : AV} {v : Value} (h : conv X s d x = some r) (hx : RV K x v) : PureOk P K (Go.convert s d v) r := by
  unfold conv at h
  cases hs : X.und s with
  | none => simp [hs] at h
  | some us =>
    cases hd : X.und d with
    | none => simp [hs, hd] at h
    | some ud =>
      simp only [hs, hd] at h
      cases ud <;> cases x <;> simp only [] at h <;> (try (cases h; done))
      case int.int k k' n =>
        have e := hx.int_inv
        subst e
        injection h with h
        subst h
        refine ⟨.int k (k.wrap n), fun w => ?_, .int _ _⟩
        simp only [Go.convert, Sem.run_bind, ok.run_und hs, ok.run_und hd, Result.andThen_ok]
        rfl
      case string.int k n =>
        have e := hx.int_inv
        subst e
        injection h with h
        subst h
        refine ⟨.string (Utf8.encode n), fun w => ?_, by simpa using RV.str (K := K) (Utf8.encode n).data.toList⟩
        simp only [Go.convert, Sem.run_bind, ok.run_und hs, ok.run_und hd, Result.andThen_ok]
        rfl
      case string.str t =>
        have e := hx.str_inv
        subst e
        injection h with h
        subst h
        refine ⟨_, fun w => ?_, .str t⟩
        simp only [Go.convert, Sem.run_bind, ok.run_und hs, ok.run_und hd, Result.andThen_ok]
        rfl

theorem min2_ok {a b r : AV} {va vb : Value} (h : min2 a b = some r) (ha : RV K a va) (hb : RV K b vb) : PureOk P K (Builtin.min2 va vb) r := by
  unfold min2 at h
  split at h
  · have e1 := ha.int_inv; have e2 := hb.int_inv
    subst e1; subst e2
    injection h with h
    subst h
    refine ⟨_, fun w => rfl, ?_⟩
    rename_i k x k' y
    by_cases e : y < x <;> simp [e] <;> exact .int _ _
  · cases h
theorem max2_ok {a b r : AV} {va vb : Value} (h : max2 a b = some r) (ha : RV K a va) (hb : RV K b vb) : PureOk P K (Builtin.max2 va vb) r := by
  unfold max2 at h
  split at h
  · have e1 := ha.int_inv; have e2 := hb.int_inv
    subst e1; subst e2
    injection h with h
    subst h
    refine ⟨_, fun w => rfl, ?_⟩
    rename_i k x k' y
    by_cases e : y > x <;> simp [e] <;> exact .int _ _
  · cases h

theorem foldO_ok {f : AV → AV → Option AV} {g : Value → Value → Sem Value} (hf : ∀ {a b r : AV} {va vb : Value}, f a b = some r → RV K a va → RV K b vb → PureOk P K (g va vb) r) :
    ∀ (l : List AV) (l' : List Value) (a r : AV) (va : Value), foldO f a l = some r → RV K a va → RL K l l' → PureOk P K (l'.foldlM g va) r
  | [], l', a, r, va, h, ha, hl => by
    have := hl.nil_inv
    subst this
    simp [foldO] at h
    subst h
    exact ⟨va, fun w => rfl, ha⟩
  | b :: l, l', a, r, va, h, ha, hl => by
    obtain ⟨vb, l'', rfl, hb, hl'⟩ := hl.cons_inv
    simp only [foldO] at h
    cases hz : f a b with
    | none => simp [hz] at h
    | some z =>
      simp only [hz] at h
      obtain ⟨vz, h1, h2⟩ := hf hz ha hb
      obtain ⟨v, h3, h4⟩ := foldO_ok hf l l'' z r vz h h2 hl'
      exact ⟨v, fun w => by rw [List.foldlM_cons, Sem.run_bind, h1]; exact h3 w, h4⟩

end
end Go.Aes
set_option linter.unusedVariables false
set_option linter.unusedSimpArgs false
namespace Go.Aes
open Go.RowKit

def runV (P : Program) (s : Sem Value) (w : World) : Result Next := (s.run P w).andThen fun x w' => .ok (.value x) w'
def runU (P : Program) (s : Sem Unit) (w : World) : Result Next := (s.run P w).andThen fun _ w' => .ok .skip w'

def InSim (X : Cx) (P : Program) (K : KC) (s : Sem Next) : In → Prop
  | .val a => ∃ v, (∀ w, s.run P w = .ok (.value v) w) ∧ RV K a v
  | .row rows sz => ∃ (vs : List Value) (ty : Nat), 0 < sz ∧ (∀ r, r ∈ rows → r.length = sz) ∧ RL K rows.flatten vs ∧
      ∀ w, s.run P w = .ok (.value (.slice (some ⟨w.heap.size, 0, none⟩) rows.length rows.length)) (w.alloc (.cells vs.toArray ty))
  | .new (.cells cs) wr => ∃ (vs : List Value) (ty : Nat), RL K cs vs ∧
      ∀ w, ∃ v, s.run P w = .ok (.value v) (w.alloc (.cells vs.toArray ty)) ∧ ∀ (K' : KC) (i : Nat), K'.μ i = some (w.heap.size, vs.length) → RV K' (wr.mk i) v
  | .new (.obj t k cs) wr => ∃ (vs : List Value), RL K cs vs ∧
      ∀ w, ∃ v, s.run P w = .ok (.value v) (w.alloc (.cells vs.toArray t)) ∧ ∀ (K' : KC) (i : Nat), K'.μ i = some (w.heap.size, vs.length) → RV K' (wr.mk i) v
  | .new (.map es) wr => es = [] ∧ ∀ w, ∃ v, s.run P w = .ok (.value v) (w.alloc (.map #[] 0)) ∧ ∀ (K' : KC) (i z : Nat), K'.μ i = some (w.heap.size, z) → RV K' (wr.mk i) v
  | .new (.iter rest pos) wr => ∃ sb : ByteArray, sb.data.toList.drop pos = rest ∧
      ∀ w, ∃ v, s.run P w = .ok (.value v) (w.alloc (.stringIter sb pos)) ∧ ∀ (K' : KC) (i z : Nat), K'.μ i = some (w.heap.size, z) → RV K' (wr.mk i) v
  | .new .tok _ => False
  | .load t a => ∃ v, RV K a v ∧ ∀ w, s.run P w = runV P (Instr.loadAt t v) w
  | .look t m k ok => ∃ vm vk, RV K m vm ∧ RV K k vk ∧ ∀ w, s.run P w = runV P (Instr.lookup t vm vk ok) w
  | .mlen r => ∃ b z, K.μ r = some (b, z) ∧ ∀ w ents clock, w.heap[b]? = some (.map ents clock) → s.run P w = .ok (.value (.int .i64 ents.size)) w
  | .bstr x => ∃ v, RV K x v ∧ ∀ w, s.run P w = runV P (Conv.bytesToString v) w
  | .store t a x => ∃ va vx, RV K a va ∧ RV K x vx ∧ ∀ w, s.run P w = runU P (Instr.storeAt t va vx) w
  | .mset t m k x => ∃ vm vk vx, RV K m vm ∧ RV K k vk ∧ RV K x vx ∧ ∀ w, s.run P w = runU P (Instr.mapUpdate t vm vk vx) w
  | .next i => ∃ b z ty, K.μ i = some (b, z) ∧ ∀ w, s.run P w = runV P (Instr.next (.pointer (some ⟨b, 0, none⟩)) true ty) w
  | .app n b x y hm te => ∃ st xt ty e d vx vy z, (∀ e', te = some e' → e = e') ∧ X.und st = some (.slice e) ∧ X.size e = some n ∧ X.bytes e = some b ∧ X.zero e = some z ∧ z.length = n ∧ X.und xt = some d ∧ (∀ k, d ≠ .int k) ∧ RV K x vx ∧ RV K y vy ∧
      ∀ w, s.run P w = runV P (Builtin.append_ #[st, xt] ty #[vx, vy]) w
  | .call g as => ∃ vs : List Value, RL K as vs ∧ ∀ w, s.run P w = (callFunc g vs.toArray).run P w
  | .panic x => ∃ v, RV K x v ∧ ∀ w, s.run P w = .halt (.panic v) w

section
variable {X : Cx} {P : Program} {K : KC}

theorem insim_val {s : Sem Value} {r : AV} (h : PureOk P K s r) : InSim X P K (do pure (.value (← s)) : Sem Next) (.val r) := by
  obtain ⟨v, h1, h2⟩ := h
  exact ⟨v, fun w => by rw [Sem.run_bind, h1]; rfl, h2⟩

theorem pv_some {x : Option AV} {i : In} (h : pv x = some i) : ∃ r, x = some r ∧ i = .val r := by
  obtain ⟨r, h1, h2⟩ := Option.map_eq_some_iff.1 h
  exact ⟨r, h1, h2.symm⟩

theorem RF.evo {ds : List Deferred} {nt : Nat} {fr : Fr} {a : Act} (x : RF ds K nt fr a) {o : Option Operand} {v : Option AV} (h : Aes.evo fr o = some v) : RO' K v (o.map a.eval) := by
  cases o with
  | none => simp [Aes.evo] at h; subst h; exact .none
  | some o =>
    simp only [Aes.evo] at h
    obtain ⟨v', h1, rfl⟩ := Option.map_eq_some_iff.1 h
    exact .some _ _ (x.ev h1)

theorem flatten_len {rows : List (List AV)} {sz : Nat} (h : ∀ r, r ∈ rows → r.length = sz) : rows.flatten.length = rows.length * sz := by
  induction rows with
  | nil => simp
  | cons r rs ih =>
    simp only [List.flatten_cons, List.length_append, List.length_cons]
    rw [ih (fun r hr => h r (List.mem_cons_of_mem _ hr)), h r (List.mem_cons_self ..), Nat.add_mul]
    omega

theorem flatten_get {rows : List (List AV)} {sz : Nat} (h : ∀ r, r ∈ rows → r.length = sz) {i j : Nat} {r : List AV} {a : AV} (hi : rows[i]? = some r) (hj : r[j]? = some a) :
    rows.flatten[i * sz + j]? = some a := by
  induction rows generalizing i with
  | nil => simp at hi
  | cons r0 rs ih =>
    have hl := h r0 (List.mem_cons_self ..)
    have hjlt : j < r.length := (List.getElem?_eq_some_iff.1 hj).1
    cases i with
    | zero =>
      simp at hi
      subst hi
      simp only [List.flatten_cons, Nat.zero_mul, Nat.zero_add]
      rw [List.getElem?_append_left hjlt]
      exact hj
    | succ i =>
      simp only [List.getElem?_cons_succ] at hi
      simp only [List.flatten_cons]
      rw [List.getElem?_append_right (by rw [hl, Nat.add_mul]; omega), hl]
      rw [show (i + 1) * sz + j - sz = i * sz + j by rw [Nat.add_mul]; omega]
      exact ih (fun r hr => h r (List.mem_cons_of_mem _ hr)) hi

/-- the model's fill of a row, row by row -/
theorem fill_rows {z : List AV} {n : Nat} (hz : z.length = n) : ∀ (parts : List (Nat × AV)) (parts' : List (Nat × Value)) (rows rows' : List (List AV)) (arr : Array Value),
    putRow z rows parts = some rows' → parts'.map (·.1) = parts.map (·.1) → RL K (parts.map (·.2)) (parts'.map (·.2)) → (∀ r, r ∈ rows → r.length = n) → RL K rows.flatten arr.toList →
    ∃ arr', Instr.fill (fun i => some (i * n, n)) arr parts' = some arr' ∧ RL K rows'.flatten arr'.toList ∧ (∀ r, r ∈ rows' → r.length = n) ∧ rows'.length = rows.length
  | [], parts', rows, rows', arr, h, h1, h2, h3, h4 => by
    have : parts' = [] := by simpa using h1
    subst this
    simp [putRow] at h
    subst h
    exact ⟨arr, rfl, h4, h3, rfl⟩
  | (i, v) :: rest, parts', rows, rows', arr, h, h1, h2, h3, h4 => by
    cases parts' with
    | nil => simp at h1
    | cons p parts' =>
      obtain ⟨i', v'⟩ := p
      simp only [List.map_cons, List.cons.injEq] at h1
      obtain ⟨rfl, h1⟩ := h1
      obtain ⟨v1, vs1, e1, hv, hvs⟩ := RL.cons_inv h2
      simp only [List.map_cons, List.cons.injEq] at e1
      obtain ⟨rfl, rfl⟩ := e1
      simp only [putRow] at h
      cases hb : (v.cells.length.beq z.length && allOne v.cells && i'.blt rows.length) with
      | false => simp [hb] at h
      | true =>
        simp only [hb, cond_true] at h
        have hb1 := Bool.and_eq_true_iff.1 hb
        have hilt := blt_of hb1.2
        have hvl : v.cells.length = n := by have := beq_of (Bool.and_eq_true_iff.1 hb1.1).1; omega
        have hl := hv.cells
        have hsz : v'.cells.size = n := by have := hl.len; simp at this; omega
        have hfl : arr.size = rows.length * n := by have := h4.len; rw [flatten_len h3] at this; simpa using this
        have hmul : i' * n + n ≤ rows.length * n := by
          have : (i' + 1) * n ≤ rows.length * n := Nat.mul_le_mul_right n hilt
          rw [Nat.add_mul] at this; omega
        obtain ⟨f1, f2⟩ := fold_set (i' * n) v'.cells.toList 0 arr (by simp; omega)
        have h3' : ∀ r, r ∈ rows.set i' v.cells → r.length = n := by
          intro r hr
          rcases List.mem_or_eq_of_mem_set hr with hr | rfl
          · exact h3 r hr
          · exact hvl
        have h4' : RL K (rows.set i' v.cells).flatten ((v'.cells.toList.zipIdx 0).foldl (fun cs p => cs.setIfInBounds (i' * n + p.2) p.1) arr).toList := by
          refine ⟨by rw [flatten_len h3']; simp only [List.length_set, Array.length_toList]; rw [f1]; exact hfl, fun (j : Nat) (x : AV) (y : Value) e e' => ?_⟩
          have hn0 : 0 < n := by
            rcases Nat.eq_zero_or_pos n with h0 | h0
            · exfalso
              have hlen := flatten_len h3'
              rw [h0, Nat.mul_zero] at hlen
              have := (List.getElem?_eq_some_iff.1 e).1
              omega
            · exact h0
          have hjlt : j < rows.length * n := by
            have := (List.getElem?_eq_some_iff.1 e).1
            rw [flatten_len h3'] at this
            simpa using this
          have hdm := Nat.div_add_mod j n
          have hmod := Nat.mod_lt j hn0
          have hq : j / n < rows.length := by rw [Nat.div_lt_iff_lt_mul hn0]; exact hjlt
          have hjj : j = (j / n) * n + j % n := by rw [Nat.mul_comm]; exact hdm.symm
          have e2 : ((v'.cells.toList.zipIdx 0).foldl (fun cs p => cs.setIfInBounds (i' * n + p.2) p.1) arr)[j]? = some y := by simpa using e'
          rw [f2] at e2
          simp only [Nat.add_zero, Array.length_toList, hsz] at e2
          by_cases hqi : j / n = i'
          · have hrow : (rows.set i' v.cells)[j / n]? = some v.cells := by rw [hqi]; simp [hilt]
            have hc : v.cells[j % n]? = some (v.cells[j % n]'(by omega)) := List.getElem?_eq_getElem _
            have := flatten_get h3' hrow hc
            rw [← hjj, e] at this
            injection this with this
            rw [if_pos (by rw [hqi] at hjj; omega)] at e2
            have hsub : j - i' * n = j % n := by rw [hqi] at hjj; omega
            rw [hsub] at e2
            exact hl.at_ (j % n) x y (by rw [hc, this]) e2
          · have hrow : (rows.set i' v.cells)[j / n]? = rows[j / n]? := List.getElem?_set_ne (Ne.symm hqi)
            have hro : rows[j / n]? = some (rows[j / n]'hq) := List.getElem?_eq_getElem _
            have hrl := h3 _ (List.getElem_mem hq)
            have hc : (rows[j / n]'hq)[j % n]? = some ((rows[j / n]'hq)[j % n]'(by omega)) := List.getElem?_eq_getElem _
            have g1 := flatten_get h3' (hrow.trans hro) hc
            have g2 := flatten_get h3 hro hc
            rw [← hjj] at g1 g2
            rw [e] at g1
            injection g1 with g1
            rw [if_neg] at e2
            · exact h4.at_ j x y (by rw [g2, g1]) (by simpa using e2)
            · rintro ⟨c1, c2⟩
              apply hqi
              have : i' * n ≤ j ∧ j < (i' + 1) * n := ⟨c1, by rw [Nat.add_mul]; omega⟩
              have h5 := (Nat.le_div_iff_mul_le hn0).2 this.1
              have h6 := (Nat.div_lt_iff_lt_mul hn0).2 this.2
              omega
        obtain ⟨arr', k1, k2, k3, k4⟩ := fill_rows hz rest parts' (rows.set i' v.cells) rows' _ h h1 hvs h3' h4'
        refine ⟨arr', ?_, k2, k3, by rw [k4]; simp⟩
        rw [← k1]
        simp only [Instr.fill]
        rw [if_neg (by simp only [Bool.or_eq_true, decide_eq_true_eq]; omega)]
        congr 1
        rw [← Array.foldl_toList]
        simp [Array.toList_zipIdx]

theorem replicate_flatten (z : List AV) (zv : List Value) (h : RL K z zv) : ∀ (n : Nat), RL K (List.replicate n z).flatten (List.replicate n zv).flatten
  | 0 => .nil
  | n + 1 => by
    simp only [List.replicate_succ, List.flatten_cons]
    exact h.append (replicate_flatten z zv h n)

theorem zero_cells {zero : Array Value} {n : Nat} (hz : 0 < zero.size) : ((Array.range (n * zero.size)).map (zero[· % zero.size]!)).toList = (List.replicate n zero.toList).flatten := by
  apply List.ext_getElem?
  intro j
  have hlen : ∀ m, ((List.replicate m zero.toList).flatten).length = m * zero.size := by
    intro m
    induction m with
    | zero => simp
    | succ m ih => simp only [List.replicate_succ, List.flatten_cons, List.length_append, ih, Array.length_toList, Nat.add_mul]; omega
  have hget : ∀ m j, j < m * zero.size → ((List.replicate m zero.toList).flatten)[j]? = zero[j % zero.size]? := by
    intro m
    induction m with
    | zero => intro j hj; simp at hj
    | succ m ih =>
      intro j hj
      simp only [List.replicate_succ, List.flatten_cons]
      by_cases h1 : j < zero.size
      · rw [List.getElem?_append_left (by simpa using h1), Nat.mod_eq_of_lt h1]; simp
      · rw [List.getElem?_append_right (by simpa using h1)]
        rw [Nat.add_mul] at hj
        rw [Array.length_toList, ih (j - zero.size) (by omega)]
        congr 1
        rw [Nat.mod_eq_sub_mod (by omega : j ≥ zero.size)]
  by_cases hj : j < n * zero.size
  · rw [hget n j hj]
    have hm := Nat.mod_lt j hz
    simp [hj, getElem!_pos zero (j % zero.size) hm, hm]
  · rw [List.getElem?_eq_none (by simp; omega), List.getElem?_eq_none (by rw [hlen]; omega)]

end
end Go.Aes
set_option linter.unusedVariables false
set_option linter.unusedSimpArgs false
namespace Go.Aes
open Go.RowKit

section
variable {X : Cx} {P : Program} {K : KC}

theorem allOne_flatten {rows : List (List AV)} : True := trivial

theorem run_newRow (e : Nat) (cells : Array Value) (w : World) : (newRow e cells).run P w = .ok ⟨w.heap.size, 0, none⟩ (w.alloc (.cells cells e)) := by
  simp [newRow]

theorem run_getObj {w : World} {r : Nat} {o : Obj} (h : w.heap[r]? = some o) (hn : ∀ c e f, o ≠ .cells c e f) : (getObj r).run P w = .ok o w := by
  unfold getObj Sem.run
  rw [h]
  cases o <;> first | rfl | exact absurd rfl (hn _ _ _)

theorem zero_row (ok : CxOk X P) {e n len : Nat} {z : List AV} (hz : X.zero e = some z) (hs : X.size e = some n) (hl : z.length = n) (hn : 0 < n) (K : KC) :
    ∃ zc : Array Value, (∀ w, ((if len * n = 0 then pure #[] else do pure (← zeroValue e).cells) : Sem (Array Value)).run P w = .ok (if len * n = 0 then #[] else zc) w) ∧
      RL K (List.replicate len z).flatten ((Array.range (len * n)).map ((if len * n = 0 then (#[] : Array Value) else zc)[· % (if len * n = 0 then (#[] : Array Value) else zc).size]!)).toList := by
  obtain ⟨v, a, ho, hc, hr, _⟩ := ok.run_zero hz
  have hv : RL K z v.cells.toList := by rw [← hc]; exact (ofV_spec ho).cells
  have hsz : v.cells.size = n := by have := hv.len; simp at this; omega
  refine ⟨v.cells, fun w => ?_, ?_⟩
  · by_cases e1 : len * n = 0
    · simp [e1]
    · simp only [if_neg e1, Sem.run_bind, hr]
      rfl
  · by_cases e1 : len * n = 0
    · have : len = 0 := by rcases Nat.mul_eq_zero.1 e1 with h | h <;> omega
      subst this
      simp
      exact .nil
    · rw [if_neg e1]
      have := zero_cells (zero := v.cells) (n := len) (by omega)
      rw [hsz] at this
      rw [hsz, this]
      exact replicate_flatten z _ hv len

theorem buildSlice_ok (ok : CxOk X P) {t len : Nat} {parts : List (Nat × AV)} {hm : Bool} {i : In} {parts' : Array (Nat × Value)} (h : buildSlice X t len parts hm = some i)
    (h1 : parts'.toList.map (·.1) = parts.map (·.1)) (h2 : RL K (parts.map (·.2)) (parts'.toList.map (·.2))) : InSim X P K (do pure (.value (← Instr.buildSlice t len parts')) : Sem Next) i := by
  unfold buildSlice at h
  cases hu : X.und t with
  | none => simp [hu] at h
  | some d =>
    simp only [hu] at h
    cases d <;> (try simp only [] at h) <;> try (cases h; done)
    case slice e =>
      cases hz : X.zero e with
      | none => simp [hz] at h
      | some z =>
        cases hs : X.size e with
        | none => simp [hz, hs] at h
        | some n =>
          simp only [hz, hs] at h
          cases hb : ((len * n).ble 16777216 && z.length.beq n && !n.beq 0 && allOne z) with
          | false => simp [hb] at h
          | true =>
            simp only [hb, cond_true] at h
            simp only [Bool.and_eq_true, Bool.not_eq_true'] at hb
            obtain ⟨⟨⟨hb1, hb2⟩, hb3⟩, hb4⟩ := hb
            have hle := ble_of hb1
            have hzl := beq_of hb2
            have hn0 : 0 < n := Nat.pos_of_ne_zero (bne_of hb3)
            cases hp : putRow z (List.replicate len z) parts with
            | none => simp [hp] at h
            | some rows =>
              simp only [hp, Option.some.injEq] at h
              obtain ⟨zc, hzr, hzl2⟩ := zero_row (len := len) ok hz hs hzl hn0 K
              obtain ⟨arr', g1, g2, g3, g4⟩ := fill_rows hzl parts parts'.toList (List.replicate len z) rows _ hp h1 h2 (fun r hr => by rw [List.eq_of_mem_replicate hr]; exact hzl) hzl2
              rw [List.length_replicate] at g4
              have hrun : ∀ w, (do pure (.value (← Instr.buildSlice t len parts')) : Sem Next).run P w = .ok (.value (.slice (some ⟨w.heap.size, 0, none⟩) len len)) (w.alloc (.cells arr' e)) := by
                intro w
                simp only [Instr.buildSlice, Sem.run_bind, ok.run_und hu, Result.andThen_ok, ok.run_size hs]
                rw [if_neg (by omega : ¬ len * n > 2 ^ 24)]
                by_cases e1 : len * n = 0
                · simp only [if_pos e1] at g1 ⊢
                  simp only [Sem.run_bind, Sem.run_pure, Result.andThen_ok, g1, run_newRow]
                · have hzr' := fun w => hzr w
                  simp only [if_neg e1] at g1 hzr' ⊢
                  have hz2 : ∀ w, ∃ zv, (zeroValue e).run P w = .ok zv w ∧ zv.cells = zc := by
                    intro w
                    have := hzr' w
                    rw [Sem.run_bind] at this
                    cases hq : (zeroValue e).run P w with
                    | ok zv w' => rw [hq] at this; simp at this; exact ⟨zv, by rw [this.2], this.1⟩
                    | halt x w' => rw [hq] at this; simp at this
                  obtain ⟨zv, hq1, hq2⟩ := hz2 w
                  simp only [Sem.run_bind, hq1, Sem.run_pure, Result.andThen_ok, hq2, g1, run_newRow]
              have hvl := g2.len
              rw [flatten_len g3, g4] at hvl
              simp at hvl
              cases hm with
              | false =>
                simp at h
                subst h
                refine ⟨arr'.toList, e, hn0, g3, g2, fun w => ?_⟩
                rw [hrun, g4]
              | true =>
                simp at h
                subst h
                refine ⟨arr'.toList, e, g2, fun w => ⟨_, by rw [hrun], fun K' j hj => ?_⟩⟩
                exact .hsl j 0 0 len len len w.heap.size arr'.toList.length n true hj (Nat.le_refl _) (Nat.le_refl _) (fun _ => by simp; omega) (.inl rfl)

theorem callB_ok (ok : CxOk X P) {b : Builtin} {ts : Array Nat} {ty : Nat} {consts : Array Bool} {as : List AV} {vs : Array Value} {hm : Bool} {i : In} (h : callB X hm b ts.toList as = some i) (hv : RL K as vs.toList) :
    InSim X P K (Go.builtin b ts ty consts vs) i := by
  have inv1 : ∀ x, as = [x] → ∃ v, vs = #[v] ∧ RV K x v := by
    intro x e
    subst e
    obtain ⟨v, vs', h1, h2, h3⟩ := hv.cons_inv
    have := h3.nil_inv
    subst this
    exact ⟨v, by apply Array.ext'; simpa using h1, h2⟩
  unfold callB at h
  split at h
  · -- len
    rename_i t x e1
    obtain ⟨v, rfl, hx⟩ := inv1 x rfl
    have et : ts = #[t] := by apply Array.ext'; simpa using e1
    subst et
    have fin : ∀ n : Int, (∀ w, (Builtin.len_ #[t] ty #[v]).run P w = .ok (.int .i64 n) w) → InSim X P K (Go.builtin .len #[t] ty consts #[v]) (.val (.int .i64 n)) := fun n hn =>
      insim_val (s := Builtin.len_ #[t] ty #[v]) ⟨_, hn, .int _ _⟩
    split at h <;> (try (cases h; done)) <;> injection h with h <;> subst h
    · rename_i d y hu
      have := hx.str_inv
      subst this
      have hsz : (⟨y.toArray⟩ : ByteArray).size = y.length := by simp [ByteArray.size]
      exact fin _ fun w => by simp [Builtin.len_, ok.run_und hu, goInt, hsz]
    · rename_i n e hu
      exact fin _ fun w => by simp [Builtin.len_, ok.run_und hu, goInt]
    · rename_i e rows tk hu
      cases hx with
      | slNil => exact fin _ fun w => by simp [Builtin.len_, ok.run_und hu, goInt]
      | slE p tk ht => exact fin _ fun w => by simp [Builtin.len_, ok.run_und hu, goInt]
      | sl => exact fin _ fun w => by simp [Builtin.len_, ok.run_und hu, goInt]
    · rename_i e a1 a2 n a4 a5 a6 hu
      cases hx
      exact fin _ fun w => by simp [Builtin.len_, ok.run_und hu, goInt]
    · rename_i a b hu
      cases hx
      exact fin _ fun w => by simp [Builtin.len_, ok.run_und hu, goInt]
    · rename_i a b r hu
      cases hx with
      | map i b' z hmu =>
        refine ⟨b', z, hmu, fun w ents clock hw => ?_⟩
        have hg : (getObj b').run P w = .ok (.map ents clock) w := run_getObj hw (by intro c e f h; cases h)
        have h1 : (Builtin.len_ #[t] ty #[.map (some b')]).run P w = .ok (.int .i64 ents.size) w := by
          simp [Builtin.len_, ok.run_und hu, goInt, hg]
        show ((do pure (.value (← Builtin.len_ #[t] ty #[.map (some b')]))) : Sem Next).run P w = _
        rw [Sem.run_bind, h1]
        rfl
  · -- append
    rename_i st xt s x e1
    have et : ts = #[st, xt] := by apply Array.ext'; simpa using e1
    subst et
    obtain ⟨v1, vs1, h1, hs1, h3⟩ := hv.cons_inv
    obtain ⟨v2, vs2, rfl, hs2, h4⟩ := h3.cons_inv
    have := h4.nil_inv
    subst this
    have ev : vs = #[v1, v2] := by apply Array.ext'; simpa using h1
    subst ev
    split at h
    · rename_i e d hu hu2
      split at h
      · cases h
      · rename_i hne
        split at h
        · rename_i n b z hn hbb hzz
          cases hzl : z.length.beq n with
          | false => simp [hzl] at h
          | true =>
          simp [hzl] at h
          subst h
          exact ⟨st, xt, ty, e, d, v1, v2, z, (by intro e' he; cases ht : X.tyd e <;> rw [ht] at he <;> first | (cases he; done) | (injection he)), hu, hn, hbb, hzz, beq_of hzl, hu2, fun k hk => hne k hk, hs1, hs2, fun w => by
            show ((do pure (.value (← Builtin.append_ #[st, xt] ty #[v1, v2]))) : Sem Next).run P w = _
            rw [Sem.run_bind]
            rfl⟩
        · cases h
    · cases h
  · rename_i x r
    obtain ⟨r', h1, rfl⟩ := pv_some h
    obtain ⟨v, vs', e1, h2, h3⟩ := hv.cons_inv
    have := foldO_ok (P := P) (K := K) (fun h ha hb => min2_ok h ha hb) r vs' x r' v h1 h2 h3
    refine insim_val (s := Builtin.min_ ts ty vs) ?_
    unfold Builtin.min_
    rw [e1]
    exact this
  · rename_i x r
    obtain ⟨r', h1, rfl⟩ := pv_some h
    obtain ⟨v, vs', e1, h2, h3⟩ := hv.cons_inv
    have := foldO_ok (P := P) (K := K) (fun h ha hb => max2_ok h ha hb) r vs' x r' v h1 h2 h3
    refine insim_val (s := Builtin.max_ ts ty vs) ?_
    unfold Builtin.max_
    rw [e1]
    exact this
  · cases h

end
end Go.Aes
