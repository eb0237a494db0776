import Derived.Test.YtgmifbbimcblcaaO1
set_option linter.all false
set_option linter.unusedVariables false
set_option linter.unusedSimpArgs false
namespace Go.Aes
open Go.RowKit

/-- the run gives this value, in whatever world, and leaves it -/
def PureOk (P : Program) (K : KC) (s : Sem Value) (a : AV) : Prop := ∃ v, (∀ w, s.run P w = .ok v w) ∧ RV K a v

section
variable {X : Cx} {P : Program} {K : KC}

theorem ofSem_spec {s : Sem Value} {a : AV} (h : ofSem s = some a) : PureOk P K s a := by
  cases s <;> simp only [ofSem] at h <;> try (cases h; done)
  rename_i v
  cases v <;> simp only [Option.some.injEq] at h <;> try (cases h; done)
  · subst h; exact ⟨_, fun w => rfl, .bool _⟩
  · subst h; exact ⟨_, fun w => rfl, .int _ _⟩

theorem scal_spec {a : AV} {v v0 : Value} (h : RV K a v) (hs : scal a = some v0) : v0 = v := by
  cases a <;> simp [scal] at hs
  · subst hs; exact h.bool_inv.symm
  · subst hs; exact h.int_inv.symm

theorem asN_spec {a : AV} {v : Value} {k : Nat} (h : RV K a v) (hs : asN a = some k) : ∃ ik n, v = .int ik n ∧ 0 ≤ n ∧ n.toNat = k := by
  cases a <;> simp only [asN] at hs <;> try (cases hs; done)
  rename_i ik n
  cases hb : decide (0 ≤ n) <;> simp [hb] at hs
  exact ⟨ik, n, h.int_inv, by simpa using hb, hs⟩

theorem bne_of {a b : Nat} (h : a.beq b = false) : a ≠ b := fun e => by subst e; simp at h
theorem beq_of {a b : Nat} (h : a.beq b = true) : a = b := by simpa using h
theorem blt_of {a b : Nat} (h : a.blt b = true) : a < b := by simpa [Nat.blt_eq] using h
theorem ble_of {a b : Nat} (h : a.ble b = true) : a ≤ b := by simpa using h

theorem field_ok (ok : CxOk X P) {t f : Nat} {a b : AV} {v : Value} (h : fieldAt X t a f = some b) (hv : RV K a v) : PureOk P K (Instr.fieldAt t v f) b := by
  unfold fieldAt at h
  cases hu : X.und t with
  | none => simp [hu] at h
  | some d =>
    cases d <;> simp [hu] at h
    case struct fs =>
      cases hf : fs[f]? with
      | none => simp [hf] at h
      | some fd =>
        simp only [hf] at h
        cases hs : X.size fd.type with
        | none => simp [hs] at h
        | some n =>
          simp only [hs] at h
          cases hn : n.beq 0 with
          | true => simp [hn] at h
          | false =>
            have hn0 := bne_of hn
            simp only [hn, cond_false] at h
            have key : ∀ (ad : Addr), v = .pointer (some ad) → ∀ w, (Instr.fieldAt t v f).run P w = .ok (.pointer (some (ad.add fd.offset))) w := by
              intro ad hv w
              subst hv
              simp [Instr.fieldAt, ok.run_und hu, hf, Instr.sureAddr, fieldPlace, ok.run_size hs, hn0]
            cases a <;> simp at h
            case ptr i o =>
              cases hv with
              | ptr i o b z hm => subst h; exact ⟨_, key _ rfl, by rw [add_plain]; exact .ptr i _ b z hm⟩
            case vptr row o =>
              cases hv with
              | vptr row o b d cv hF hv => subst h; exact ⟨_, key _ rfl, by rw [add_plain, Nat.add_assoc]; exact .vptr row _ b d cv hF hv⟩

theorem RV.row_at {rows : List (List AV)} {tk : Tk} {v : Value} (h : RV K (.sl rows tk) v) {k : Nat} {r : List AV} (hk : rows[k]? = some r) :
    ∃ (b d c : Nat) (cv : Nat → Value), v = .slice (some ⟨b, d, none⟩) rows.length c ∧ (∀ (j : Nat) (a : AV), r[j]? = some a → K.F b (d + k * r.length + j) = some (cv j)) ∧
      (∀ (j : Nat) (a : AV), r[j]? = some a → RV K a (cv j)) := by
  cases h with
  | slNil => simp at hk
  | slE p tk ht => simp at hk
  | sl rows tk b d c sz cv h0 hr hF hv hc ht =>
    have hl : r.length = sz := hr r (List.mem_of_getElem? hk)
    exact ⟨b, d, c, fun j => cv (k * sz + j), rfl, fun j a ha => by rw [hl]; exact hF k r j a hk ha, fun j a ha => hv k r j a hk ha⟩

theorem index_ok (ok : CxOk X P) {t : Nat} {a ix b : AV} {v vi : Value} (h : indexAt X t a ix = some b) (hv : RV K a v) (hi : RV K ix vi) : PureOk P K (Instr.indexAt t v vi) b := by
  unfold indexAt at h
  cases hk : asN ix with
  | none => simp [hk] at h
  | some k =>
    obtain ⟨ik, n, rfl, hn0, hnk⟩ := asN_spec hi hk
    simp only [hk] at h
    cases hu : X.und t with
    | none => simp [hu] at h
    | some d =>
      cases d <;> simp only [hu] at h <;> try (cases h; done)
      case array len e =>
        cases hb : k.blt len with
        | false => simp [hb] at h
        | true =>
          have hlt := blt_of hb
          simp only [hb, cond_true] at h
          cases hs : X.size e with
          | none => simp [hs] at h
          | some sz =>
            simp only [hs] at h
            have key : ∀ (ad : Addr), v = .pointer (some ad) → ∀ w, (Instr.indexAt t v (.int ik n)).run P w = .ok (.pointer (some (ad.add (k * sz)))) w := by
              intro ad hv w
              subst hv
              have h1 : 0 ≤ n ∧ n < (len : Int) := ⟨hn0, by omega⟩
              simp [Instr.indexAt, asIntOf, ok.run_und hu, Instr.sureAddr, h1.1, h1.2, ok.run_size hs, hnk]
            cases a <;> simp only [Option.some.injEq] at h <;> try (cases h; done)
            case ptr i o =>
              cases hv with
              | ptr i o b z hm => subst h; exact ⟨_, key _ rfl, by rw [add_plain]; exact .ptr i _ b z hm⟩
            case vptr row o =>
              cases hv with
              | vptr row o b d cv hF hv => subst h; exact ⟨_, key _ rfl, by rw [add_plain, Nat.add_assoc]; exact .vptr row _ b d cv hF hv⟩
      case slice e =>
        cases hs : X.size e with
        | none => simp [hs] at h
        | some sz =>
          simp only [hs] at h
          have key : ∀ (ad : Addr) (len c : Nat), v = .slice (some ad) len c → k < len → ∀ w, (Instr.indexAt t v (.int ik n)).run P w = .ok (.pointer (some (ad.add (k * sz)))) w := by
            intro ad len c hv hlt w
            subst hv
            have h1 : 0 ≤ n ∧ n < (len : Int) := ⟨hn0, by omega⟩
            simp [Instr.indexAt, asIntOf, ok.run_und hu, h1.1, h1.2, ok.run_size hs, hnk]
          cases a <;> simp only [] at h <;> try (cases h; done)
          case sl rows tk =>
            cases hr : rows[k]? with
            | none => simp [hr] at h
            | some r =>
              simp only [hr] at h
              cases hb : r.length.beq sz with
              | false => simp [hb] at h
              | true =>
                have hsz := beq_of hb
                simp [hb] at h
                subst h
                obtain ⟨b, d, c, cv, rfl, hF, hV⟩ := hv.row_at hr
                have hlt : k < rows.length := (List.getElem?_eq_some_iff.1 hr).1
                refine ⟨_, key _ _ _ rfl hlt, ?_⟩
                rw [add_plain]
                have := RV.vptr (K := K) r 0 b (d + k * sz) cv (fun j a ha => by rw [← hsz]; exact hF j a ha) hV
                simpa using this
          case hsl i o m c' sz' g =>
            cases hb : (k.blt m && sz'.beq sz) with
            | false => simp [hb] at h
            | true =>
              simp only [hb, cond_true, Option.some.injEq] at h
              subst h
              have hb' := Bool.and_eq_true_iff.1 hb
              cases hv with
              | hsl i o o' n' c'' c1 b z sz1 g hm hn hc hz ho =>
                have hlt := blt_of hb'.1
                have ho' : o' = o := ho.resolve_right (by omega)
                subst ho'
                exact ⟨_, key _ _ _ rfl hlt, by rw [add_plain]; exact .ptr i _ b z hm⟩

theorem part_ok (ok : CxOk X P) {t o : Nat} {cs : List AV} {b : AV} {vs : List Value} (h : part X t cs o = some b) (hv : RL K cs vs) : PureOk P K (Go.part t vs.toArray o) b := by
  unfold part at h
  cases ha : X.isAgg t with
  | none => simp [ha] at h
  | some ag =>
    cases hs : X.size t with
    | none => cases ag <;> simp [ha, hs] at h
    | some n =>
      cases ag <;> simp [ha, hs] at h
      · obtain ⟨v, hv1, hv2⟩ := hv.get h
        exact ⟨v, fun w => by simp [Go.part, ok.run_isAgg ha, hv1], hv2⟩
      · subst h
        refine ⟨.agg (vs.toArray.extract o (o + n)), fun w => by simp [Go.part, ok.run_isAgg ha, ok.run_size hs], ?_⟩
        have := ((hv.drop o).take n).agg
        have e : vs.toArray.extract o (o + n) = ((vs.drop o).take n).toArray := by
          apply Array.ext'
          simp [List.extract_eq_take_drop]
        rw [e]; exact this

theorem fieldOf_ok (ok : CxOk X P) {t f : Nat} {a b : AV} {v : Value} (h : fieldOf X t a f = some b) (hv : RV K a v) : PureOk P K (Instr.field t v f) b := by
  unfold fieldOf at h
  cases hu : X.und t with
  | none => simp [hu] at h
  | some d =>
    cases d <;> simp only [hu] at h <;> try (cases h; done)
    case struct fs =>
      cases a <;> simp only [] at h <;> try (cases h; done)
      case agg cs =>
        obtain ⟨vs, rfl, hvs⟩ := hv.agg_inv
        simp only [Array.getElem?_toList] at h
        cases hf : fs[f]? with
        | none => simp [hf] at h
        | some fd =>
          simp only [hf] at h
          obtain ⟨v', h1, h2⟩ := part_ok ok h hvs
          exact ⟨v', fun w => by simp [Instr.field, ok.run_und hu, hf, asAgg, h1], h2⟩

theorem indexOf_ok (ok : CxOk X P) {t : Nat} {a ix b : AV} {v vi : Value} (h : indexOf X t a ix = some b) (hv : RV K a v) (hi : RV K ix vi) : PureOk P K (Instr.index t v vi) b := by
  unfold indexOf at h
  cases hk : asN ix with
  | none => simp [hk] at h
  | some k =>
    obtain ⟨ik, n, rfl, hn0, hnk⟩ := asN_spec hi hk
    simp only [hk] at h
    cases hu : X.und t with
    | none => simp [hu] at h
    | some d =>
      cases d <;> simp only [hu] at h <;> try (cases h; done)
      case array len e =>
        cases a <;> simp only [] at h <;> try (cases h; done)
        case agg cs =>
          obtain ⟨vs, rfl, hvs⟩ := hv.agg_inv
          cases hb : k.blt len with
          | false => simp [hb] at h
          | true =>
            have hlt := blt_of hb
            simp only [hb, cond_true] at h
            cases hs : X.size e with
            | none => simp [hs] at h
            | some sz =>
              simp only [hs] at h
              obtain ⟨v', h1, h2⟩ := part_ok ok h hvs
              have h3 : 0 ≤ n ∧ n < (len : Int) := ⟨hn0, by omega⟩
              exact ⟨v', fun w => by simp [Instr.index, asIntOf, ok.run_und hu, h3.1, h3.2, ok.run_size hs, hnk, h1], h2⟩
      case string =>
        cases a <;> simp only [] at h <;> try (cases h; done)
        case str s =>
          have := hv.str_inv
          subst this
          cases hb : s[k]? with
          | none => simp [hb] at h
          | some c =>
            simp only [hb, Option.some.injEq] at h
            subst h
            refine ⟨.int .u8 c.toNat, fun w => ?_, .int _ _⟩
            obtain ⟨hlt, h5⟩ := List.getElem?_eq_some_iff.1 hb
            have e : (⟨s.toArray⟩ : ByteArray)[k]? = some c := by
              have h4 : k < (⟨s.toArray⟩ : ByteArray).size := by simpa [ByteArray.size] using hlt
              rw [getElem?_pos (⟨s.toArray⟩ : ByteArray) k h4]
              show some (s.toArray[k]'(by simpa using hlt)) = some c
              simp [h5]
            simp [Instr.index, asIntOf, ok.run_und hu, hn0, hnk, e]

end
end Go.Aes
