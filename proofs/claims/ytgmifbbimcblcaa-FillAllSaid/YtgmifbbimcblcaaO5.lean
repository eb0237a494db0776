import Derived.Test.YtgmifbbimcblcaaO4
set_option linter.all false
set_option linter.unusedVariables false
set_option linter.unusedSimpArgs false
namespace Go.Aes
open Go.RowKit

theorem eqL_spec : ∀ a b : List UInt8, eqL a b = (a == b)
  | [], [] => rfl
  | [], _ :: _ => rfl
  | _ :: _, [] => rfl
  | x :: a, y :: b => by
    have h : x.toNat.beq y.toNat = (x == y) := by
      rw [Bool.eq_iff_iff]
      simp [UInt8.toNat_inj]
    simp [eqL, eqL_spec a b, h]

theorem lessL_spec : ∀ a b : List UInt8, lessL a b = Op.bytesLess a b
  | a, [] => by cases a <;> rfl
  | [], _ :: _ => rfl
  | x :: a, y :: b => by
    have h : x.toNat.beq y.toNat = (x == y) := by
      rw [Bool.eq_iff_iff]
      simp [UInt8.toNat_inj]
    have h2 : x.toNat.blt y.toNat = decide (x < y) := by
      rw [Bool.eq_iff_iff]
      simp [Nat.blt_eq, UInt8.lt_iff_toNat_lt]
    simp [lessL, Op.bytesLess, lessL_spec a b, h, h2]

section
variable {X : Cx} {P : Program} {K : KC}

theorem mk_append (a b : List UInt8) : (⟨a.toArray⟩ : ByteArray) ++ ⟨b.toArray⟩ = ⟨(a ++ b).toArray⟩ := by
  apply ByteArray.ext
  simp [ByteArray.data_append]

theorem strOp_ok {op : BinOp} {a b : List UInt8} {r : AV} (h : strOp op a b = some r) : PureOk P K (Op.stringOp op ⟨a.toArray⟩ ⟨b.toArray⟩) r := by
  have sa : (⟨a.toArray⟩ : ByteArray).size = a.length := by simp [ByteArray.size]
  have sb : (⟨b.toArray⟩ : ByteArray).size = b.length := by simp [ByteArray.size]
  cases op <;> simp only [strOp] at h <;> (try (cases h; done)) <;> (try (injection h with h; subst h; refine ⟨_, fun w => rfl, ?_⟩; simp only [ByteArray.toList_mk, eqL_spec, lessL_spec]; exact .bool _))
  cases hb : (a.length + b.length).blt most with
  | false => simp [hb] at h
  | true =>
    have hlt := blt_of hb
    simp only [hb, cond_true, Option.some.injEq] at h
    subst h
    refine ⟨.string ⟨(a ++ b).toArray⟩, fun w => ?_, .str _⟩
    have hmax : IntKind.i64.max = 9223372036854775807 := rfl
    have hm : most = 100000000000000 := rfl
    simp only [Op.stringOp, sa, sb]
    rw [if_neg (by rw [hmax]; omega), mk_append]
    rfl

def GuardFree (a b : Value) : Prop := ¬ (∃ x y, a = .agg x ∧ b = .agg y) ∧ ¬ (a = .nilIface ∧ b = .nilIface)

theorem run_eqGuard {op : BinOp} {t : Nat} {x y : Operand} {a b : Value} (h : GuardFree a b) (w : World) : (eqGuard op t x y a b).run P w = .ok () w := by
  unfold eqGuard
  obtain ⟨h1, h2⟩ := h
  cases op <;> try rfl
  all_goals
    cases a <;> (try rfl) <;> cases b <;> first | rfl | exact absurd ⟨_, _, rfl, rfl⟩ h1 | exact absurd ⟨rfl, rfl⟩ h2

theorem run_equal {t : Nat} {d : TypeDesc} {a b : Value} {r : Bool} (hd : P.underlying t = some d) (h : ∀ w, (Op.equalIn (9999 + 1) t a b).run P w = .ok r w) (w : World) :
    (Op.equal t a b).run P w = .ok r w := h w

theorem TkR.nil_false {b e z sz n c : Nat} (h : TkR K .nil b e z sz n c) : False := h

theorem refEq_ok (ok : CxOk X P) {t : Nat} {d : TypeDesc} {x y : AV} {vx vy : Value} {r : Bool} (hu : X.und t = some d) (h : refEq d x y = some r) (hx : RV K x vx) (hy : RV K y vy) :
    (∀ w, (Op.equal t vx vy).run P w = .ok r w) ∧ GuardFree vx vy := by
  suffices hs : (∀ D w, (Op.equalIn (D + 1) t vx vy).run P w = .ok r w) ∧ GuardFree vx vy from ⟨fun w => hs.1 9999 w, hs.2⟩
  unfold refEq at h
  have und := fun w => ok.run_und hu w
  split at h <;> (try (cases h; done)) <;> (injection h with h; subst h; cases hx <;> cases hy) <;>
    (try (rename_i ht; exact (TkR.nil_false ht).elim)) <;> (try (rename_i ht; rcases ht with h | h <;> cases h <;> done)) <;> (try (rename_i ht _ _; rcases ht with h | h <;> cases h <;> done)) <;> refine ⟨fun D w => ?_, by simp [GuardFree]⟩ <;>
    simp only [Op.equalIn, Sem.run_bind, und, Result.andThen_ok, Sem.run_pure, Option.isNone_none, Option.isNone_some]

theorem binop_ok (ok : CxOk X P) {op : BinOp} {t : Nat} {ox oy : Operand} {x y r : AV} {vx vy : Value} (h : binop X op t x y = some r) (hx : RV K x vx) (hy : RV K y vy) :
    PureOk P K (do eqGuard op t ox oy vx vy; Go.binOp op t vx vy) r := by
  have fin : ∀ {s : Sem Value} {r : AV}, GuardFree vx vy → PureOk P K s r → PureOk P K (do eqGuard op t ox oy vx vy; s) r := by
    intro s r hg ⟨v, h1, h2⟩
    exact ⟨v, fun w => by rw [Sem.run_bind, run_eqGuard hg]; exact h1 w, h2⟩
  have other : ∀ d, X.und t = some d → (match (generalizing := false) op with
      | .eql => (refEq d x y).map AV.bool
      | .neq => (refEq d x y).map fun b => AV.bool (!b)
      | _ => none) = some r → (∀ o a b, ¬ (vx = .int o a ∧ ∃ o', vy = .int o' b)) → (∀ a b, ¬ (vx = .string a ∧ vy = .string b)) → PureOk P K (do eqGuard op t ox oy vx vy; Go.binOp op t vx vy) r := by
    intro d hu h n1 n2
    cases op <;> simp only [] at h <;> (try (cases h; done))
    all_goals
      obtain ⟨b, hb, rfl⟩ := Option.map_eq_some_iff.1 h
      obtain ⟨h1, h2⟩ := refEq_ok ok hu hb hx hy
    · refine fin h2 ⟨.bool b, fun w => ?_, .bool _⟩
      have : Go.binOp .eql t vx vy = (do pure (.bool (← Op.equal t vx vy)) : Sem Value) := by
        unfold refEq at hb
        split at hb <;> (try (cases hb; done)) <;> cases hx <;> cases hy <;> rfl
      rw [this, Sem.run_bind, h1]; rfl
    · refine fin h2 ⟨.bool (!b), fun w => ?_, .bool _⟩
      have : Go.binOp .neq t vx vy = (do pure (.bool (!(← Op.equal t vx vy))) : Sem Value) := by
        unfold refEq at hb
        split at hb <;> (try (cases hb; done)) <;> cases hx <;> cases hy <;> rfl
      rw [this, Sem.run_bind, h1]; rfl
  unfold binop at h
  split at h
  · -- two strings
    have e1 := hx.str_inv; have e2 := hy.str_inv
    subst e1; subst e2
    refine fin (by simp [GuardFree]) ?_
    have := strOp_ok (P := P) (K := K) h
    cases op <;> exact this
  · have e1 := hx.int_inv; have e2 := hy.int_inv
    subst e1; subst e2
    exact fin (by simp [GuardFree]) (ofSem_spec h)
  · rename_i n1 n2
    cases hu : X.und t with
    | none => simp [hu] at h
    | some d =>
      simp only [hu] at h
      refine other d hu h ?_ ?_
      · rintro o a b ⟨rfl, o', rfl⟩
        cases hx; cases hy
        exact n2 _ _ _ _ rfl rfl
      · rintro a b ⟨rfl, rfl⟩
        cases hx; cases hy
        exact n1 _ _ rfl rfl

theorem unop_ok {op : UnOp} {x r : AV} {v v0 : Value} (hs : scal x = some v0) (h : ofSem (Op.unary op v0) = some r) (hx : RV K x v) : PureOk P K (Op.unary op v) r := by
  have := scal_spec hx hs
  subst this
  exact ofSem_spec h

theorem conv_ok (ok : CxOk X P) {s d : Nat} {x r : AV} {v : Value} (h : conv X s d x = some r) (hx : RV K x v) : PureOk P K (Go.convert s d v) r := by
  unfold conv at h
  cases hs : X.und s with
  | none => simp [hs] at h
  | some us =>
    cases hd : X.und d with
    | none => simp [hs, hd] at h
    | some ud =>
      simp only [hs, hd] at h
      cases ud <;> cases x <;> simp only [] at h <;> (try (cases h; done))
      case int.int k k' n =>
        have e := hx.int_inv
        subst e
        injection h with h
        subst h
        refine ⟨.int k (k.wrap n), fun w => ?_, .int _ _⟩
        simp only [Go.convert, Sem.run_bind, ok.run_und hs, ok.run_und hd, Result.andThen_ok]
        rfl
      case string.int k n =>
        have e := hx.int_inv
        subst e
        injection h with h
        subst h
        refine ⟨.string (Utf8.encode n), fun w => ?_, by simpa using RV.str (K := K) (Utf8.encode n).data.toList⟩
        simp only [Go.convert, Sem.run_bind, ok.run_und hs, ok.run_und hd, Result.andThen_ok]
        rfl
      case string.str t =>
        have e := hx.str_inv
        subst e
        injection h with h
        subst h
        refine ⟨_, fun w => ?_, .str t⟩
        simp only [Go.convert, Sem.run_bind, ok.run_und hs, ok.run_und hd, Result.andThen_ok]
        rfl

theorem min2_ok {a b r : AV} {va vb : Value} (h : min2 a b = some r) (ha : RV K a va) (hb : RV K b vb) : PureOk P K (Builtin.min2 va vb) r := by
  unfold min2 at h
  split at h
  · have e1 := ha.int_inv; have e2 := hb.int_inv
    subst e1; subst e2
    injection h with h
    subst h
    refine ⟨_, fun w => rfl, ?_⟩
    rename_i k x k' y
    by_cases e : y < x <;> simp [e] <;> exact .int _ _
  · cases h
theorem max2_ok {a b r : AV} {va vb : Value} (h : max2 a b = some r) (ha : RV K a va) (hb : RV K b vb) : PureOk P K (Builtin.max2 va vb) r := by
  unfold max2 at h
  split at h
  · have e1 := ha.int_inv; have e2 := hb.int_inv
    subst e1; subst e2
    injection h with h
    subst h
    refine ⟨_, fun w => rfl, ?_⟩
    rename_i k x k' y
    by_cases e : y > x <;> simp [e] <;> exact .int _ _
  · cases h

theorem foldO_ok {f : AV → AV → Option AV} {g : Value → Value → Sem Value} (hf : ∀ {a b r : AV} {va vb : Value}, f a b = some r → RV K a va → RV K b vb → PureOk P K (g va vb) r) :
    ∀ (l : List AV) (l' : List Value) (a r : AV) (va : Value), foldO f a l = some r → RV K a va → RL K l l' → PureOk P K (l'.foldlM g va) r
  | [], l', a, r, va, h, ha, hl => by
    have := hl.nil_inv
    subst this
    simp [foldO] at h
    subst h
    exact ⟨va, fun w => rfl, ha⟩
  | b :: l, l', a, r, va, h, ha, hl => by
    obtain ⟨vb, l'', rfl, hb, hl'⟩ := hl.cons_inv
    simp only [foldO] at h
    cases hz : f a b with
    | none => simp [hz] at h
    | some z =>
      simp only [hz] at h
      obtain ⟨vz, h1, h2⟩ := hf hz ha hb
      obtain ⟨v, h3, h4⟩ := foldO_ok hf l l'' z r vz h h2 hl'
      exact ⟨v, fun w => by rw [List.foldlM_cons, Sem.run_bind, h1]; exact h3 w, h4⟩

end
end Go.Aes
