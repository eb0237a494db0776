import Derived.Test.YtgmifbbimcblcaaO7
set_option linter.all false
set_option linter.unusedVariables false
set_option linter.unusedSimpArgs false
namespace Go.Aes
open Go.RowKit

section
variable {X : Cx} {P : Program} {K : KC}

theorem alloc_ok (ok : CxOk X P) {t : Nat} {z : List AV} (hz : X.zero t = some z) : InSim X P K (do pure (.value (← Instr.alloc t true (.tuple #[]))) : Sem Next) (.new (.cells z) .ptr) := by
  obtain ⟨v, a, ho, hc, hr, _⟩ := ok.run_zero hz
  refine ⟨v.cells.toList, t, by rw [← hc]; exact (ofV_spec ho).cells, fun w => ⟨.pointer (some ⟨w.heap.size, 0, none⟩), ?_, fun K' i hi => .ptr i 0 _ _ hi⟩⟩
  simp only [Instr.alloc, Sem.run_bind, hr, Result.andThen_ok, newVar, run_newRow, Sem.run_pure, Array.toArray_toList]

theorem box_ok {t : Nat} {a : AV} {v : Value} (h : RV K a v) : InSim X P K (do pure (.value (← Instr.box t v)) : Sem Next) (.new (.cells a.cells) .ptr) := by
  refine ⟨v.cells.toList, t, h.cells, fun w => ⟨.pointer (some ⟨w.heap.size, 0, none⟩), ?_, fun K' i hi => .ptr i 0 _ _ hi⟩⟩
  simp only [Instr.box, Sem.run_bind, Result.andThen_ok, newVar, run_newRow, Sem.run_pure, Array.toArray_toList]

theorem wrap_small {n : Int} (h0 : 0 ≤ n) (h1 : n < 9223372036854775808) : IntKind.i64.wrap n = n := by
  have hb : (2 ^ IntKind.i64.bits : Int) = 18446744073709551616 := rfl
  have hb2 : (2 ^ (IntKind.i64.bits - 1) : Int) = 9223372036854775808 := rfl
  have hs : IntKind.i64.signed = true := rfl
  unfold IntKind.wrap
  rw [hb, hb2, hs]
  have e1 : n % 18446744073709551616 = n := by omega
  simp only [e1, Bool.true_and]
  rw [if_neg (by simp; omega)]

theorem makeSlice_ok (ok : CxOk X P) {t e n sz b : Nat} {z : List AV} {k1 k2 : IntKind} {i1 i2 : Int} (hu : X.und t = some (.slice e)) (hz : X.zero e = some z) (hs : X.size e = some sz) (hb : X.bytes e = some b)
    (h1 : 0 ≤ i1 ∧ i1.toNat = n) (h2 : 0 ≤ i2 ∧ i2.toNat = n) (hlt : n * (b + 1) < most) (hl : z.length = sz) (h0 : 0 < sz) :
    InSim X P K (do pure (.value (← Instr.makeSlice t (.int k1 i1) (.int k2 i2))) : Sem Next) (.new (.cells (List.replicate n z).flatten) (.hsl n sz)) := by
  obtain ⟨ib, hib, hbb⟩ := ok.bytes e b hb
  obtain ⟨zc, hzr, hzl⟩ := zero_row (len := n) ok hz hs hl h0 K
  have hm : most = 100000000000000 := rfl
  have hn : n < 100000000000000 := by
    have : n * 1 ≤ n * (b + 1) := Nat.mul_le_mul_left n (by omega)
    omega
  have hbn : b * n < 100000000000000 := by
    have : n * b ≤ n * (b + 1) := Nat.mul_le_mul_left n (by omega)
    rw [Nat.mul_comm]; omega
  have w1 := wrap_small h1.1 (by omega)
  have w2 := wrap_small h2.1 (by omega)
  have e1 : i1 = (n : Int) := by omega
  have e2 : i2 = (n : Int) := by omega
  subst e1; subst e2
  have hvl := hzl.len
  refine ⟨((Array.range (n * sz)).map ((if n * sz = 0 then (#[] : Array Value) else zc)[· % (if n * sz = 0 then (#[] : Array Value) else zc).size]!)).toList, e, hzl, fun w => ⟨.slice (some ⟨w.heap.size, 0, none⟩) n n, ?_, fun K' i hi => ?_⟩⟩
  · have htl : ((n : Int) < 0 || (b : Int) * (n : Int) > 2 ^ 48) = false := by
      have : (b : Int) * (n : Int) = ((b * n : Nat) : Int) := by simp
      rw [this]
      simp
      omega
    have hbnd : ∀ w, (typeInfo e).run P w = .ok ib w := fun w => CxOk.run_info hib w
    simp only [Instr.makeSlice, Sem.run_bind, ok.run_und hu, Result.andThen_ok, asInt, asIntOf, Sem.run_pure, hbnd, hbb, w1, w2, htl, Bool.false_or]
    have hc : (decide ((n : Int) < 0) || decide ((n : Int) > (n : Int))) = false := by simp
    rw [hc]
    simp only [Bool.false_eq_true, if_false, Sem.run_bind, run_askRoom, Result.andThen_ok, ok.run_size hs, Int.toNat_natCast]
    by_cases e3 : n * sz = 0
    · simp only [if_pos e3, Sem.run_bind, Sem.run_pure, Result.andThen_ok, run_newRow, Array.toArray_toList]
    · have hzr' := fun w => hzr w
      simp only [if_neg e3] at hzr' ⊢
      have hz2 : ∃ zv, (zeroValue e).run P w = .ok zv w ∧ zv.cells = zc := by
        have := hzr' w
        rw [Sem.run_bind] at this
        cases hq : (zeroValue e).run P w with
        | ok zv w' => rw [hq] at this; simp at this; exact ⟨zv, by rw [this.2], this.1⟩
        | halt x w' => rw [hq] at this; simp at this
      obtain ⟨zv, hq1, hq2⟩ := hz2
      simp only [Sem.run_bind, hq1, Sem.run_pure, Result.andThen_ok, hq2, run_newRow, Array.toArray_toList]
  · refine .hsl i 0 0 n n n w.heap.size _ sz true hi (Nat.le_refl _) (Nat.le_refl _) (fun _ => ?_) (.inl rfl)
    simp

theorem runV_of {s : Sem Value} (w : World) : (do pure (.value (← s)) : Sem Next).run P w = runV P s w := by rw [Sem.run_bind]; rfl
theorem runU_of {s : Sem Unit} (w : World) : (do s; pure .skip : Sem Next).run P w = runU P s w := by rw [Sem.run_bind]; rfl

theorem nil_ok {av : AV} {v : Value} {r : AV} (hv : RV K av v)
    (h : (match some av with
      | some (.ptr i o) => some (In.val (.ptr i o))
      | some (.vptr r o) => some (In.val (.vptr r o))
      | some (.fn (.func g) a b) => some (In.val (.fn (.func g) a b))
      | _ => none) = some (.val r)) (x : Operand) (a : Act) (hx : a.eval x = v) (d : Option Tmp) (ty : TypeId) (pos : String) (after : Array Edge) (g : Option (Nat × Bool)) :
    ∃ v, (∀ w, (execOp a.eval ⟨d, .nilCheck x, ty, pos, after, g⟩).run P w = .ok (.value v) w) ∧ RV K r v := by
  subst hx
  split at h <;> (try (cases h; done)) <;> rename_i he <;> injection he with he <;> subst he <;> injection h with h <;> injection h with h <;> subst h
  · refine ⟨a.eval x, fun w => ?_, hv⟩
    generalize hq : a.eval x = v at hv
    cases hv
    simp only [execOp, hq]
    rfl
  · refine ⟨a.eval x, fun w => ?_, hv⟩
    generalize hq : a.eval x = v at hv
    cases hv
    simp only [execOp, hq]
    rfl
  · refine ⟨a.eval x, fun w => ?_, hv⟩
    generalize hq : a.eval x = v at hv
    cases hv
    simp only [execOp, hq]
    rfl

theorem range_ok (ok : CxOk X P) {t : Nat} {s : List UInt8} {v : Value} (hu : X.und t = some .string) (hv : RV K (.str s) v) :
    InSim X P K (do pure (.value (← Instr.range t v)) : Sem Next) (.new (.iter s 0) .it) := by
  have := hv.str_inv
  subst this
  refine ⟨⟨s.toArray⟩, by simp, fun w => ⟨.pointer (some ⟨w.heap.size, 0, none⟩), ?_, fun K' i z hi => .it i _ z hi⟩⟩
  rw [runV_of]
  simp only [runV, Instr.range, Sem.run_bind, ok.run_und hu, Result.andThen_ok, Sem.run_pure, run_newObj, World.alloc_eq]

theorem makeMap_ok {t : Nat} : InSim X P K (do pure (.value (← Instr.makeMap t none)) : Sem Next) (.new (.map []) .map) :=
  ⟨rfl, fun w => ⟨.map (some w.heap.size), by rw [runV_of]; rfl, fun K' i z hi => .map i _ z hi⟩⟩

theorem extract_ok {vs : List AV} {k : Nat} {r : AV} {v : Value} (h : vs[k]? = some r) (hv : RV K (.tup vs) v) : PureOk P K (Instr.extract v k) r := by
  obtain ⟨l, rfl, hl⟩ := hv.tup_inv
  obtain ⟨y, h1, h2⟩ := hl.get h
  exact ⟨y, fun w => by simp [Instr.extract, h1], h2⟩

theorem panic_ok {t : Nat} {x : AV} {v : Value} (hv : RV K (.iface t x) v) : InSim X P K (do pure (.value (← Instr.panic v)) : Sem Next) (.panic (.iface t x)) := by
  refine ⟨v, hv, fun w => ?_⟩
  cases hv
  rw [runV_of]
  rfl

theorem callV_ok {g : Nat} {first cap as : List AV} {vf : Value} {vas : Array Value} (hf : RV K (.fn (.func g) first cap) vf) (ha : RL K as vas.toList) :
    ∃ vs : List Value, RL K (first ++ as ++ cap) vs ∧ ∀ w, (do let d ← Deferred.ofValue vf vas; invoke d.target d.args : Sem Next).run P w = (callFunc g vs.toArray).run P w := by
  cases hf with
  | fn f a c a' c' h1 h2 h3 h4 =>
    refine ⟨a'.toList ++ vas.toList ++ c'.toList, ?_, fun w => ?_⟩
    · exact (RL.append ⟨by simpa using h1, fun (j : Nat) (x : AV) (y : Value) e e' => h3 j x y e (by simpa using e')⟩ ha).append ⟨by simpa using h2, fun (j : Nat) (x : AV) (y : Value) e e' => h4 j x y e (by simpa using e')⟩
    · have e : (a'.toList ++ vas.toList ++ c'.toList).toArray = a' ++ vas ++ c' := by apply Array.ext'; simp
      rw [e]
      rfl

set_option maxHeartbeats 1600000 in
theorem inst_sim (ok : CxOk X P) {f nt : Nat} {fr : Fr} {a : Act} {o : Oper} {i : In} (h : inst X f fr o = some i) (rf : RF K nt fr a) : InSim X P K (execOp a.eval o) i := by
  obtain ⟨dst, op, ty, pos, after, guard⟩ := o
  cases op <;> (try simp only [inst] at h) <;> (try (cases h; done))
  case move x =>
    obtain ⟨r, h1, rfl⟩ := pv_some h
    exact ⟨_, fun w => rfl, rf.ev h1⟩
  case assign x =>
    obtain ⟨r, h1, rfl⟩ := pv_some h
    exact ⟨_, fun w => rfl, rf.ev h1⟩
  case pick c x y =>
    cases hc : ev fr c with
    | none => simp [hc] at h
    | some cv =>
      rw [hc] at h
      cases cv <;> (try simp only [] at h) <;> (try (cases h; done))
      rename_i b
      have hb := (rf.ev hc).bool_inv
      cases b <;> simp only [] at h
      · obtain ⟨r, h1, rfl⟩ := pv_some h
        exact ⟨_, fun w => by simp [execOp, hb, asBool], rf.ev h1⟩
      · obtain ⟨r, h1, rfl⟩ := pv_some h
        exact ⟨_, fun w => by simp [execOp, hb, asBool], rf.ev h1⟩
  case alloc t =>
    cases hz : X.zero t with
    | none => simp [hz] at h
    | some z => simp [hz] at h; subst h; exact alloc_ok ok hz
  case box t x =>
    cases hx : ev fr x with
    | none => simp [hx] at h
    | some v =>
      simp only [hx] at h
      cases hb : allOne v.cells with
      | false => simp [hb] at h
      | true => simp [hb] at h; subst h; exact box_ok (rf.ev hx)
  case build t ps =>
    cases hp : evps fr ps.toList with
    | none => simp [hp] at h
    | some l =>
      simp only [hp] at h
      obtain ⟨r, h1, rfl⟩ := pv_some h
      obtain ⟨g1, g2⟩ := rf.evps hp
      exact insim_val (s := Instr.build t (ps.map fun (i, x) => (i, a.eval x))) (build_ok ok h1 (by simp [g1, Function.comp_def]) (by simpa [Function.comp_def] using g2))
  case buildSlice t n ps =>
    cases hp : evps fr ps.toList with
    | none => simp [hp] at h
    | some l =>
      simp only [hp] at h
      obtain ⟨g1, g2⟩ := rf.evps hp
      have e : execOp a.eval ⟨dst, .buildSlice t n ps, ty, pos, after, guard⟩ = (do pure (.value (← Instr.buildSlice t n (ps.map fun (i, x) => (i, a.eval x)))) : Sem Next) := rfl
      rw [e]
      exact buildSlice_ok ok h (by simp [g1, Function.comp_def]) (by simpa [Function.comp_def] using g2)
  case load t x =>
    obtain ⟨v, h1, rfl⟩ := Option.map_eq_some_iff.1 h
    exact ⟨_, rf.ev h1, fun w => runV_of (s := Instr.loadAt t (a.eval x)) w⟩
  case store t x y =>
    cases hx : ev fr x with
    | none => simp [hx] at h
    | some vx =>
      cases hy : ev fr y with
      | none => simp [hx, hy] at h
      | some vy =>
        simp only [hx, hy, Option.some.injEq] at h
        subst h
        exact ⟨_, _, rf.ev hx, rf.ev hy, fun w => runU_of (s := Instr.storeAt t (a.eval x) (a.eval y)) w⟩
  case nilCheck x =>
    cases hx : ev fr x with
    | none => simp [hx] at h
    | some vx =>
      have hv := rf.ev hx
      simp only [hx] at h
      have hi : ∃ r, i = .val r := by
        split at h <;> (try (cases h; done)) <;> injection h with h <;> exact ⟨_, h.symm⟩
      obtain ⟨r, rfl⟩ := hi
      exact nil_ok hv h x a rfl dst ty pos after guard
  case binOp op t x y yt =>
    cases hx : ev fr x with
    | none => simp [hx] at h
    | some vx =>
      cases hy : ev fr y with
      | none => simp [hx, hy] at h
      | some vy =>
        simp only [hx, hy] at h
        obtain ⟨r, h1, rfl⟩ := pv_some h
        exact insim_val (s := do eqGuard op t x y (a.eval x) (a.eval y); Go.binOp op t (a.eval x) (a.eval y)) (binop_ok ok h1 (rf.ev hx) (rf.ev hy))
  case unOp op t x =>
    cases hx : ev fr x with
    | none => simp [hx] at h
    | some vx =>
      simp only [hx] at h
      cases hs : scal vx with
      | none => simp [hs] at h
      | some v0 =>
        simp only [hs] at h
        obtain ⟨r, h1, rfl⟩ := pv_some h
        exact insim_val (s := Op.unary op (a.eval x)) (unop_ok hs h1 (rf.ev hx))
  case convert s d x =>
    cases hx : ev fr x with
    | none => simp [hx] at h
    | some vx =>
      simp only [hx] at h
      cases hc : conv X s d vx with
      | some v =>
        simp only [hc, Option.some.injEq] at h
        subst h
        exact insim_val (s := Go.convert s d (a.eval x)) (conv_ok ok hc (rf.ev hx))
      | none =>
        simp only [hc] at h
        split at h <;> (try (cases h; done))
        rename_i e hs hd
        split at h <;> (try (cases h; done))
        rename_i he
        cases hsl : isSl vx with
        | false => simp [hsl] at h
        | true =>
        simp [hsl] at h
        subst h
        have hv := rf.ev hx
        refine ⟨_, hv, fun w => ?_⟩
        have : (Go.convert s d (a.eval x)).run P w = (Conv.bytesToString (a.eval x)).run P w := by
          simp only [Go.convert, Sem.run_bind, ok.run_und hs, ok.run_und hd, Result.andThen_ok]
          generalize a.eval x = v at hv
          have : ∃ ad n c, v = .slice ad n c := by
            cases hv <;> first | exact ⟨_, _, _, rfl⟩ | simp [isSl] at hsl
          obtain ⟨ad, n, c, rfl⟩ := this
          simp only [Sem.run_bind, ok.run_und he, Result.andThen_ok]
        show (do pure (.value (← Go.convert s d (a.eval x))) : Sem Next).run P w = _
        rw [Sem.run_bind, this]
        rfl
  case makeFunc g x y =>
    cases hx : evs fr x.toList with
    | none => simp [hx] at h
    | some vx =>
      cases hy : evs fr y.toList with
      | none => simp [hx, hy] at h
      | some vy =>
        simp only [hx, hy, Option.some.injEq] at h
        subst h
        have h1 := rf.evs hx
        have h2 := rf.evs hy
        exact ⟨.func g (x.map a.eval) (y.map a.eval), fun w => rfl, .fn g vx vy _ _ (by have := h1.len; simpa using this) (by have := h2.len; simpa using this)
          (fun j p q e e' => h1.at_ j p q e (by simpa using e')) (fun j p q e e' => h2.at_ j p q e (by simpa using e'))⟩
  case makeMap t r =>
    cases r with
    | some r => simp at h
    | none => simp at h; subst h; exact makeMap_ok
  case slice t x lo hi mx =>
    cases hx : ev fr x with
    | none => simp [hx] at h
    | some vx =>
      cases hlo : evo fr lo with
      | none => simp [hx, hlo] at h
      | some vlo =>
        cases hhi : evo fr hi with
        | none => simp [hx, hlo, hhi] at h
        | some vhi =>
          cases hmx : evo fr mx with
          | none => simp [hx, hlo, hhi, hmx] at h
          | some vmx =>
            simp only [hx, hlo, hhi, hmx] at h
            obtain ⟨r, h1, rfl⟩ := pv_some h
            exact insim_val (s := Instr.sliceAt t (a.eval x) (lo.map a.eval) (hi.map a.eval) (mx.map a.eval)) (sliceOp_ok ok h1 (rf.ev hx) (rf.evo hlo) (rf.evo hhi) (rf.evo hmx))
  case fieldAddr t x k =>
    cases hx : ev fr x with
    | none => simp [hx] at h
    | some vx =>
      simp only [hx] at h
      obtain ⟨r, h1, rfl⟩ := pv_some h
      exact insim_val (s := Instr.fieldAt t (a.eval x) k) (field_ok ok h1 (rf.ev hx))
  case field t x k =>
    cases hx : ev fr x with
    | none => simp [hx] at h
    | some vx =>
      simp only [hx] at h
      obtain ⟨r, h1, rfl⟩ := pv_some h
      exact insim_val (s := Instr.field t (a.eval x) k) (fieldOf_ok ok h1 (rf.ev hx))
  case indexAddr t x y =>
    cases hx : ev fr x with
    | none => simp [hx] at h
    | some vx =>
      cases hy : ev fr y with
      | none => simp [hx, hy] at h
      | some vy =>
        simp only [hx, hy] at h
        obtain ⟨r, h1, rfl⟩ := pv_some h
        exact insim_val (s := Instr.indexAt t (a.eval x) (a.eval y)) (index_ok ok h1 (rf.ev hx) (rf.ev hy))
  case index t x y =>
    cases hx : ev fr x with
    | none => simp [hx] at h
    | some vx =>
      cases hy : ev fr y with
      | none => simp [hx, hy] at h
      | some vy =>
        simp only [hx, hy] at h
        obtain ⟨r, h1, rfl⟩ := pv_some h
        exact insim_val (s := Instr.index t (a.eval x) (a.eval y)) (indexOf_ok ok h1 (rf.ev hx) (rf.ev hy))
  case lookup t x y c =>
    cases hx : ev fr x with
    | none => simp [hx] at h
    | some vx =>
      cases hy : ev fr y with
      | none => simp [hx, hy] at h
      | some vy =>
        simp only [hx, hy, Option.some.injEq] at h
        subst h
        exact ⟨_, _, rf.ev hx, rf.ev hy, fun w => runV_of (s := Instr.lookup t (a.eval x) (a.eval y) c) w⟩
  case mapUpdate t x y z =>
    cases hx : ev fr x with
    | none => simp [hx] at h
    | some vx =>
      cases hy : ev fr y with
      | none => simp [hx, hy] at h
      | some vy =>
        cases hz : ev fr z with
        | none => simp [hx, hy, hz] at h
        | some vz =>
          simp only [hx, hy, hz, Option.some.injEq] at h
          subst h
          exact ⟨_, _, _, rf.ev hx, rf.ev hy, rf.ev hz, fun w => runU_of (s := Instr.mapUpdate t (a.eval x) (a.eval y) (a.eval z)) w⟩
  case range t x =>
    cases hx : ev fr x with
    | none => simp [hx] at h
    | some vx =>
      cases vx <;> (try simp only [hx] at h) <;> (try (cases h; done))
      rename_i s
      cases hu : X.und t with
      | none => simp [hu] at h
      | some d =>
        cases d <;> (try simp only [hu] at h) <;> (try (cases h; done))
        injection h with h
        subst h
        exact range_ok ok hu (rf.ev hx)
  case next it b =>
    cases b with
    | false => simp at h
    | true =>
      simp only [] at h
      cases hx : ev fr it with
      | none => simp [hx] at h
      | some vx =>
        cases vx <;> (try simp only [hx] at h) <;> (try (cases h; done))
        rename_i j
        injection h with h
        subst h
        have hv := rf.ev hx
        have : ∃ b z, a.eval it = .pointer (some ⟨b, 0, none⟩) ∧ K.μ j = some (b, z) := by
          generalize a.eval it = v at hv
          cases hv with
          | it i b z hm => exact ⟨b, z, rfl, hm⟩
        obtain ⟨b, z, hb, hm⟩ := this
        refine ⟨b, z, ty, hm, fun w => ?_⟩
        rw [← hb]
        exact runV_of (s := Instr.next (a.eval it) true ty) w
  case extract x k =>
    cases hx : ev fr x with
    | none => simp [hx] at h
    | some vx =>
      cases vx <;> (try simp only [hx] at h) <;> (try (cases h; done))
      obtain ⟨r, h1, rfl⟩ := pv_some h
      exact insim_val (s := Instr.extract (a.eval x) k) (extract_ok h1 (rf.ev hx))
  case makeSlice t n c =>
    cases hu : X.und t with
    | none => simp [hu] at h
    | some d =>
      cases d <;> (try simp only [hu] at h) <;> (try (cases h; done))
      rename_i e
      cases hx : ev fr n with
      | none => simp [hx] at h
      | some vn =>
        cases hy : ev fr c with
        | none => simp [hx, hy] at h
        | some vc =>
          simp only [hx, hy] at h
          split at h <;> (try (cases h; done))
          rename_i z sz b n' c' e1 e2 e3 e4 e5
          cases hb : ((c' * (b + 1)).blt most && n'.beq c' && z.length.beq sz && !sz.beq 0) with
          | false => simp [hb] at h
          | true =>
            simp [hb] at h
            subst h
            simp only [Bool.and_eq_true, Bool.not_eq_true'] at hb
            obtain ⟨⟨⟨b1, b2⟩, b3⟩, b4⟩ := hb
            have hnc := beq_of b2
            subst hnc
            obtain ⟨k1, i1, q1, q2, q3⟩ := asN_spec (rf.ev hx) e4
            obtain ⟨k2, i2, p1, p2, p3⟩ := asN_spec (rf.ev hy) e5
            have := makeSlice_ok (K := K) (k1 := k1) (k2 := k2) ok hu e1 e2 e3 ⟨q2, q3⟩ ⟨p2, p3⟩ (blt_of b1) (beq_of b3) (Nat.pos_of_ne_zero (bne_of b4))
            rw [← q1, ← p1] at this
            exact this
  case panic x =>
    cases hx : ev fr x with
    | none => simp [hx] at h
    | some vx =>
      cases vx <;> (try simp only [hx] at h) <;> (try (cases h; done))
      injection h with h
      subst h
      exact panic_ok (rf.ev hx)
  case call c =>
    obtain ⟨callee, args, argTypes⟩ := c
    cases callee <;> (try simp only [] at h) <;> (try (cases h; done))
    case value g =>
      cases hx : ev fr g with
      | none => simp [hx] at h
      | some vg =>
        cases hy : evs fr args.toList with
        | none => cases vg <;> simp [hx, hy] at h
        | some as =>
          simp only [hx, hy] at h
          split at h <;> (try (cases h; done))
          rename_i g' first cap as' e1 e2
          injection e1 with e1; injection e2 with e2
          subst e2
          injection h with h
          subst h
          have hg := rf.ev hx
          rw [e1] at hg
          obtain ⟨vs, h1, h2⟩ := callV_ok (P := P) (vas := args.map a.eval) hg (by simpa using rf.evs hy)
          exact ⟨vs, h1, fun w => h2 w⟩
    case builtin b =>
      cases hy : evs fr args.toList with
      | none => simp [hy] at h
      | some as =>
        simp only [hy] at h
        exact callB_ok ok h (vs := args.map a.eval) (by simpa using rf.evs hy)

end
end Go.Aes
