import Derived.Test.YtnmljkjdflfdoaaDoorOX1
set_option linter.all false
set_option linter.unusedVariables false
set_option linter.unusedSimpArgs false
namespace Go.Aes
open Go.RowKit

section
variable {X : Cx} {P : Program} {K : KC}

theorem alloc_ok (ok : CxOk X P) {t : Nat} {z : List AV} (hz : X.zero t = some z) : InSim X P K (do pure (.value (← Instr.alloc t true (.tuple #[]))) : Sem Next) (.new (.cells z) .ptr) := by
  obtain ⟨v, a, ho, hc, hr, _⟩ := ok.run_zero hz
  refine ⟨v.cells.toList, t, by rw [← hc]; exact (ofV_spec ho).cells, fun w => ⟨.pointer (some ⟨w.heap.size, 0, none⟩), ?_, fun K' i hi => .ptr i 0 _ _ hi⟩⟩
  simp only [Instr.alloc, Sem.run_bind, hr, Result.andThen_ok, newVar, run_newRow, Sem.run_pure, Array.toArray_toList]

theorem alloc_ok' (ok : CxOk X P) {t : Nat} {z : List AV} (hz : X.zero t = some z) : InSim X P K (do pure (.value (← Instr.alloc t true (.tuple #[]))) : Sem Next) (.new (bif X.tyd t then .obj t 0 z else .cells z) .ptr) := by
  cases X.tyd t with
  | false => exact alloc_ok ok hz
  | true =>
    obtain ⟨v, a, ho, hc, hr, _⟩ := ok.run_zero hz
    refine ⟨v.cells.toList, by rw [← hc]; exact (ofV_spec ho).cells, fun w => ⟨.pointer (some ⟨w.heap.size, 0, none⟩), ?_, fun K' i hi => .ptr i 0 _ _ hi⟩⟩
    simp only [Instr.alloc, Sem.run_bind, hr, Result.andThen_ok, newVar, run_newRow, Sem.run_pure, Array.toArray_toList]

theorem box_ok {t : Nat} {a : AV} {v : Value} (h : RV K a v) : InSim X P K (do pure (.value (← Instr.box t v)) : Sem Next) (.new (.cells a.cells) .ptr) := by
  refine ⟨v.cells.toList, t, h.cells, fun w => ⟨.pointer (some ⟨w.heap.size, 0, none⟩), ?_, fun K' i hi => .ptr i 0 _ _ hi⟩⟩
  simp only [Instr.box, Sem.run_bind, Result.andThen_ok, newVar, run_newRow, Sem.run_pure, Array.toArray_toList]

theorem wrap_small {n : Int} (h0 : 0 ≤ n) (h1 : n < 9223372036854775808) : IntKind.i64.wrap n = n := by
  have hb : (2 ^ IntKind.i64.bits : Int) = 18446744073709551616 := rfl
  have hb2 : (2 ^ (IntKind.i64.bits - 1) : Int) = 9223372036854775808 := rfl
  have hs : IntKind.i64.signed = true := rfl
  unfold IntKind.wrap
  rw [hb, hb2, hs]
  have e1 : n % 18446744073709551616 = n := by omega
  simp only [e1, Bool.true_and]
  rw [if_neg (by simp; omega)]

theorem makeSlice_ok (ok : CxOk X P) {t e n sz b : Nat} {z : List AV} {k1 k2 : IntKind} {i1 i2 : Int} (hu : X.und t = some (.slice e)) (hz : X.zero e = some z) (hs : X.size e = some sz) (hb : X.bytes e = some b)
    (h1 : 0 ≤ i1 ∧ i1.toNat = n) (h2 : 0 ≤ i2 ∧ i2.toNat = n) (hlt : n * (b + 1) < most) (hl : z.length = sz) (h0 : 0 < sz) :
    InSim X P K (do pure (.value (← Instr.makeSlice t (.int k1 i1) (.int k2 i2))) : Sem Next) (.new (.cells (List.replicate n z).flatten) (.hsl n sz)) := by
  obtain ⟨ib, hib, hbb⟩ := ok.bytes e b hb
  obtain ⟨zc, hzr, hzl⟩ := zero_row (len := n) ok hz hs hl h0 K
  have hm : most = 100000000000000 := rfl
  have hn : n < 100000000000000 := by
    have : n * 1 ≤ n * (b + 1) := Nat.mul_le_mul_left n (by omega)
    omega
  have hbn : b * n < 100000000000000 := by
    have : n * b ≤ n * (b + 1) := Nat.mul_le_mul_left n (by omega)
    rw [Nat.mul_comm]; omega
  have w1 := wrap_small h1.1 (by omega)
  have w2 := wrap_small h2.1 (by omega)
  have e1 : i1 = (n : Int) := by omega
  have e2 : i2 = (n : Int) := by omega
  subst e1; subst e2
  have hvl := hzl.len
  refine ⟨((Array.range (n * sz)).map ((if n * sz = 0 then (#[] : Array Value) else zc)[· % (if n * sz = 0 then (#[] : Array Value) else zc).size]!)).toList, e, hzl, fun w => ⟨.slice (some ⟨w.heap.size, 0, none⟩) n n, ?_, fun K' i hi => ?_⟩⟩
  · have htl : ((n : Int) < 0 || (b : Int) * (n : Int) > 2 ^ 48) = false := by
      have : (b : Int) * (n : Int) = ((b * n : Nat) : Int) := by simp
      rw [this]
      simp
      omega
    have hbnd : ∀ w, (typeInfo e).run P w = .ok ib w := fun w => CxOk.run_info hib w
    simp only [Instr.makeSlice, Sem.run_bind, ok.run_und hu, Result.andThen_ok, asInt, asIntOf, Sem.run_pure, hbnd, hbb, w1, w2, htl, Bool.false_or]
    have hc : (decide ((n : Int) < 0) || decide ((n : Int) > (n : Int))) = false := by simp
    rw [hc]
    simp only [Bool.false_eq_true, if_false, Sem.run_bind, run_askRoom, Result.andThen_ok, ok.run_size hs, Int.toNat_natCast]
    by_cases e3 : n * sz = 0
    · simp only [if_pos e3, Sem.run_bind, Sem.run_pure, Result.andThen_ok, run_newRow, Array.toArray_toList]
    · have hzr' := fun w => hzr w
      simp only [if_neg e3] at hzr' ⊢
      have hz2 : ∃ zv, (zeroValue e).run P w = .ok zv w ∧ zv.cells = zc := by
        have := hzr' w
        rw [Sem.run_bind] at this
        cases hq : (zeroValue e).run P w with
        | ok zv w' => rw [hq] at this; simp at this; exact ⟨zv, by rw [this.2], this.1⟩
        | halt x w' => rw [hq] at this; simp at this
      obtain ⟨zv, hq1, hq2⟩ := hz2
      simp only [Sem.run_bind, hq1, Sem.run_pure, Result.andThen_ok, hq2, run_newRow, Array.toArray_toList]
  · refine .hsl i 0 0 n n n w.heap.size _ sz true hi (Nat.le_refl _) (Nat.le_refl _) (fun _ => ?_) (.inl rfl)
    simp

theorem runV_of {s : Sem Value} (w : World) : (do pure (.value (← s)) : Sem Next).run P w = runV P s w := by rw [Sem.run_bind]; rfl
theorem runU_of {s : Sem Unit} (w : World) : (do s; pure .skip : Sem Next).run P w = runU P s w := by rw [Sem.run_bind]; rfl

theorem nil_ok {av : AV} {v : Value} {r : AV} (hv : RV K av v)
    (h : (match some av with
      | some (.ptr i o) => some (In.val (.ptr i o))
      | some (.vptr r o) => some (In.val (.vptr r o))
      | some (.fn (.func g) a b) => some (In.val (.fn (.func g) a b))
      | _ => none) = some (.val r)) (x : Operand) (a : Act) (hx : a.eval x = v) (d : Option Tmp) (ty : TypeId) (pos : String) (after : Array Edge) (g : Option (Nat × Bool)) :
    ∃ v, (∀ w, (execOp a.eval ⟨d, .nilCheck x, ty, pos, after, g⟩).run P w = .ok (.value v) w) ∧ RV K r v := by
  subst hx
  split at h <;> (try (cases h; done)) <;> rename_i he <;> injection he with he <;> subst he <;> injection h with h <;> injection h with h <;> subst h
  · refine ⟨a.eval x, fun w => ?_, hv⟩
    generalize hq : a.eval x = v at hv
    cases hv
    simp only [execOp, hq]
    rfl
  · refine ⟨a.eval x, fun w => ?_, hv⟩
    generalize hq : a.eval x = v at hv
    cases hv
    simp only [execOp, hq]
    rfl
  · refine ⟨a.eval x, fun w => ?_, hv⟩
    generalize hq : a.eval x = v at hv
    cases hv
    simp only [execOp, hq]
    rfl

theorem range_ok (ok : CxOk X P) {t : Nat} {s : List UInt8} {v : Value} (hu : X.und t = some .string) (hv : RV K (.str s) v) :
    InSim X P K (do pure (.value (← Instr.range t v)) : Sem Next) (.new (.iter s 0) .it) := by
  have := hv.str_inv
  subst this
  refine ⟨⟨s.toArray⟩, by simp, fun w => ⟨.pointer (some ⟨w.heap.size, 0, none⟩), ?_, fun K' i z hi => .it i _ z hi⟩⟩
  rw [runV_of]
  simp only [runV, Instr.range, Sem.run_bind, ok.run_und hu, Result.andThen_ok, Sem.run_pure, run_newObj, World.alloc_eq]

theorem makeMap_ok {t : Nat} : InSim X P K (do pure (.value (← Instr.makeMap t none)) : Sem Next) (.new (.map []) .map) :=
  ⟨rfl, fun w => ⟨.map (some w.heap.size), by rw [runV_of]; rfl, fun K' i z hi => .map i _ z hi⟩⟩

theorem extract_ok {vs : List AV} {k : Nat} {r : AV} {v : Value} (h : vs[k]? = some r) (hv : RV K (.tup vs) v) : PureOk P K (Instr.extract v k) r := by
  obtain ⟨l, rfl, hl⟩ := hv.tup_inv
  obtain ⟨y, h1, h2⟩ := hl.get h
  exact ⟨y, fun w => by simp [Instr.extract, h1], h2⟩

theorem panic_ok {t : Nat} {x : AV} {v : Value} (hv : RV K (.iface t x) v) : InSim X P K (do pure (.value (← Instr.panic v)) : Sem Next) (.panic (.iface t x)) := by
  refine ⟨v, hv, fun w => ?_⟩
  cases hv
  rw [runV_of]
  rfl

theorem callV_ok {g : Nat} {first cap as : List AV} {vf : Value} {vas : Array Value} (hf : RV K (.fn (.func g) first cap) vf) (ha : RL K as vas.toList) :
    ∃ vs : List Value, RL K (first ++ as ++ cap) vs ∧ ∀ w, (do let d ← Deferred.ofValue vf vas; invoke d.target d.args : Sem Next).run P w = (callFunc g vs.toArray).run P w := by
  cases hf with
  | fn f a c a' c' h1 h2 h3 h4 =>
    refine ⟨a'.toList ++ vas.toList ++ c'.toList, ?_, fun w => ?_⟩
    · exact (RL.append ⟨by simpa using h1, fun (j : Nat) (x : AV) (y : Value) e e' => h3 j x y e (by simpa using e')⟩ ha).append ⟨by simpa using h2, fun (j : Nat) (x : AV) (y : Value) e e' => h4 j x y e (by simpa using e')⟩
    · have e : (a'.toList ++ vas.toList ++ c'.toList).toArray = a' ++ vas ++ c' := by apply Array.ext'; simp
      rw [e]
      rfl

set_option maxHeartbeats 1600000 in
theorem inst_sim (ok : CxOk X P) {ds : List Deferred} {f nt : Nat} {fr : Fr} {a : Act} {o : Oper} {i : In} (h : inst X f fr o = some i) (rf : RF ds K nt fr a) : InSim X P K (execOp a.eval o) i := by
  obtain ⟨dst, op, ty, pos, after, guard⟩ := o
  cases op <;> (try simp only [inst] at h) <;> (try (cases h; done))
  case move x =>
    obtain ⟨r, h1, rfl⟩ := pv_some h
    exact ⟨_, fun w => rfl, rf.ev h1⟩
  case assign x =>
    obtain ⟨r, h1, rfl⟩ := pv_some h
    exact ⟨_, fun w => rfl, rf.ev h1⟩
  case pick c x y =>
    cases hc : ev fr c with
    | none => simp [hc] at h
    | some cv =>
      rw [hc] at h
      cases cv <;> (try simp only [] at h) <;> (try (cases h; done))
      rename_i b
      have hb := (rf.ev hc).bool_inv
      cases b <;> simp only [] at h
      · obtain ⟨r, h1, rfl⟩ := pv_some h
        exact ⟨_, fun w => by simp [execOp, hb, asBool], rf.ev h1⟩
      · obtain ⟨r, h1, rfl⟩ := pv_some h
        exact ⟨_, fun w => by simp [execOp, hb, asBool], rf.ev h1⟩
  case alloc t =>
    cases hz : X.zero t with
    | none => simp [hz] at h
    | some z => simp only [hz, Option.some.injEq] at h; subst h; exact alloc_ok' ok hz
  case box t x =>
    cases hx : ev fr x with
    | none => simp [hx] at h
    | some v =>
      simp only [hx] at h
      cases hb : allOne v.cells with
      | false => simp [hb] at h
      | true => simp [hb] at h; subst h; exact box_ok (rf.ev hx)
  case build t ps =>
    cases hp : evps fr ps.toList with
    | none => simp [hp] at h
    | some l =>
      simp only [hp] at h
      obtain ⟨r, h1, rfl⟩ := pv_some h
      obtain ⟨g1, g2⟩ := rf.evps hp
      exact insim_val (s := Instr.build t (ps.map fun (i, x) => (i, a.eval x))) (build_ok ok h1 (by simp [g1, Function.comp_def]) (by simpa [Function.comp_def] using g2))
  case buildSlice t n ps =>
    cases hp : evps fr ps.toList with
    | none => simp [hp] at h
    | some l =>
      simp only [hp] at h
      obtain ⟨g1, g2⟩ := rf.evps hp
      have e : execOp a.eval ⟨dst, .buildSlice t n ps, ty, pos, after, guard⟩ = (do pure (.value (← Instr.buildSlice t n (ps.map fun (i, x) => (i, a.eval x)))) : Sem Next) := rfl
      rw [e]
      exact buildSlice_ok ok h (by simp [g1, Function.comp_def]) (by simpa [Function.comp_def] using g2)
  case load t x =>
    obtain ⟨v, h1, rfl⟩ := Option.map_eq_some_iff.1 h
    exact ⟨_, rf.ev h1, fun w => runV_of (s := Instr.loadAt t (a.eval x)) w⟩
  case store t x y =>
    cases hx : ev fr x with
    | none => simp [hx] at h
    | some vx =>
      cases hy : ev fr y with
      | none => simp [hx, hy] at h
      | some vy =>
        simp only [hx, hy, Option.some.injEq] at h
        subst h
        exact ⟨_, _, rf.ev hx, rf.ev hy, fun w => runU_of (s := Instr.storeAt t (a.eval x) (a.eval y)) w⟩
  case nilCheck x =>
    cases hx : ev fr x with
    | none => simp [hx] at h
    | some vx =>
      have hv := rf.ev hx
      simp only [hx] at h
      have hi : ∃ r, i = .val r := by
        split at h <;> (try (cases h; done)) <;> injection h with h <;> exact ⟨_, h.symm⟩
      obtain ⟨r, rfl⟩ := hi
      exact nil_ok hv h x a rfl dst ty pos after guard
  case binOp op t x y yt =>
    cases hx : ev fr x with
    | none => simp [hx] at h
    | some vx =>
      cases hy : ev fr y with
      | none => simp [hx, hy] at h
      | some vy =>
        simp only [hx, hy] at h
        obtain ⟨r, h1, rfl⟩ := pv_some h
        exact insim_val (s := do eqGuard op t x y (a.eval x) (a.eval y); Go.binOp op t (a.eval x) (a.eval y)) (binop_ok ok h1 (rf.ev hx) (rf.ev hy))
  case unOp op t x =>
    cases hx : ev fr x with
    | none => simp [hx] at h
    | some vx =>
      simp only [hx] at h
      cases hs : scal vx with
      | none => simp [hs] at h
      | some v0 =>
        simp only [hs] at h
        obtain ⟨r, h1, rfl⟩ := pv_some h
        exact insim_val (s := Op.unary op (a.eval x)) (unop_ok hs h1 (rf.ev hx))
  case convert s d x =>
    cases hx : ev fr x with
    | none => simp [hx] at h
    | some vx =>
      simp only [hx] at h
      cases hc : conv X s d vx with
      | some v =>
        simp only [hc, Option.some.injEq] at h
        subst h
        exact insim_val (s := Go.convert s d (a.eval x)) (conv_ok ok hc (rf.ev hx))
      | none =>
        simp only [hc] at h
        split at h <;> (try (cases h; done))
        rename_i e hs hd
        split at h <;> (try (cases h; done))
        rename_i he
        cases hsl : isSl vx with
        | false => simp [hsl] at h
        | true =>
        simp [hsl] at h
        subst h
        have hv := rf.ev hx
        refine ⟨_, hv, fun w => ?_⟩
        have : (Go.convert s d (a.eval x)).run P w = (Conv.bytesToString (a.eval x)).run P w := by
          simp only [Go.convert, Sem.run_bind, ok.run_und hs, ok.run_und hd, Result.andThen_ok]
          generalize a.eval x = v at hv
          have : ∃ ad n c, v = .slice ad n c := by
            cases hv <;> first | exact ⟨_, _, _, rfl⟩ | simp [isSl] at hsl
          obtain ⟨ad, n, c, rfl⟩ := this
          simp only [Sem.run_bind, ok.run_und he, Result.andThen_ok]
        show (do pure (.value (← Go.convert s d (a.eval x))) : Sem Next).run P w = _
        rw [Sem.run_bind, this]
        rfl
  case makeFunc g x y =>
    cases hx : evs fr x.toList with
    | none => simp [hx] at h
    | some vx =>
      cases hy : evs fr y.toList with
      | none => simp [hx, hy] at h
      | some vy =>
        simp only [hx, hy, Option.some.injEq] at h
        subst h
        have h1 := rf.evs hx
        have h2 := rf.evs hy
        exact ⟨.func g (x.map a.eval) (y.map a.eval), fun w => rfl, .fn g vx vy _ _ (by have := h1.len; simpa using this) (by have := h2.len; simpa using this)
          (fun j p q e e' => h1.at_ j p q e (by simpa using e')) (fun j p q e e' => h2.at_ j p q e (by simpa using e'))⟩
  case makeInterface t x =>
    split at h <;> (try (cases h; done))
    rename_i d v hne hu hx
    simp only [Option.some.injEq] at h
    subst h
    refine insim_val (s := Instr.makeInterface t (a.eval x)) ⟨.iface t (a.eval x), fun w => ?_, .iface t v _ (rf.ev hx)⟩
    simp only [Instr.makeInterface, Sem.run_bind, ok.run_und hu, Result.andThen_ok]
    first
      | rfl
      | (cases d <;> first | rfl | exact (hne _ rfl).elim)
  case makeMap t r =>
    cases r with
    | some r => simp at h
    | none => simp at h; subst h; exact makeMap_ok
  case slice t x lo hi mx =>
    cases hx : ev fr x with
    | none => simp [hx] at h
    | some vx =>
      cases hlo : evo fr lo with
      | none => simp [hx, hlo] at h
      | some vlo =>
        cases hhi : evo fr hi with
        | none => simp [hx, hlo, hhi] at h
        | some vhi =>
          cases hmx : evo fr mx with
          | none => simp [hx, hlo, hhi, hmx] at h
          | some vmx =>
            simp only [hx, hlo, hhi, hmx] at h
            obtain ⟨r, h1, rfl⟩ := pv_some h
            exact insim_val (s := Instr.sliceAt t (a.eval x) (lo.map a.eval) (hi.map a.eval) (mx.map a.eval)) (sliceOp_ok ok h1 (rf.ev hx) (rf.evo hlo) (rf.evo hhi) (rf.evo hmx))
  case fieldAddr t x k =>
    cases hx : ev fr x with
    | none => simp [hx] at h
    | some vx =>
      simp only [hx] at h
      obtain ⟨r, h1, rfl⟩ := pv_some h
      exact insim_val (s := Instr.fieldAt t (a.eval x) k) (field_ok ok h1 (rf.ev hx))
  case field t x k =>
    cases hx : ev fr x with
    | none => simp [hx] at h
    | some vx =>
      simp only [hx] at h
      obtain ⟨r, h1, rfl⟩ := pv_some h
      exact insim_val (s := Instr.field t (a.eval x) k) (fieldOf_ok ok h1 (rf.ev hx))
  case indexAddr t x y =>
    cases hx : ev fr x with
    | none => simp [hx] at h
    | some vx =>
      cases hy : ev fr y with
      | none => simp [hx, hy] at h
      | some vy =>
        simp only [hx, hy] at h
        obtain ⟨r, h1, rfl⟩ := pv_some h
        exact insim_val (s := Instr.indexAt t (a.eval x) (a.eval y)) (index_ok ok h1 (rf.ev hx) (rf.ev hy))
  case index t x y =>
    cases hx : ev fr x with
    | none => simp [hx] at h
    | some vx =>
      cases hy : ev fr y with
      | none => simp [hx, hy] at h
      | some vy =>
        simp only [hx, hy] at h
        obtain ⟨r, h1, rfl⟩ := pv_some h
        exact insim_val (s := Instr.index t (a.eval x) (a.eval y)) (indexOf_ok ok h1 (rf.ev hx) (rf.ev hy))
  case lookup t x y c =>
    cases hx : ev fr x with
    | none => simp [hx] at h
    | some vx =>
      cases hy : ev fr y with
      | none => simp [hx, hy] at h
      | some vy =>
        simp only [hx, hy, Option.some.injEq] at h
        subst h
        exact ⟨_, _, rf.ev hx, rf.ev hy, fun w => runV_of (s := Instr.lookup t (a.eval x) (a.eval y) c) w⟩
  case mapUpdate t x y z =>
    cases hx : ev fr x with
    | none => simp [hx] at h
    | some vx =>
      cases hy : ev fr y with
      | none => simp [hx, hy] at h
      | some vy =>
        cases hz : ev fr z with
        | none => simp [hx, hy, hz] at h
        | some vz =>
          simp only [hx, hy, hz, Option.some.injEq] at h
          subst h
          exact ⟨_, _, _, rf.ev hx, rf.ev hy, rf.ev hz, fun w => runU_of (s := Instr.mapUpdate t (a.eval x) (a.eval y) (a.eval z)) w⟩
  case range t x =>
    cases hx : ev fr x with
    | none => simp [hx] at h
    | some vx =>
      cases vx <;> (try simp only [hx] at h) <;> (try (cases h; done))
      rename_i s
      cases hu : X.und t with
      | none => simp [hu] at h
      | some d =>
        cases d <;> (try simp only [hu] at h) <;> (try (cases h; done))
        injection h with h
        subst h
        exact range_ok ok hu (rf.ev hx)
  case next it b =>
    cases b with
    | false => simp at h
    | true =>
      simp only [] at h
      cases hx : ev fr it with
      | none => simp [hx] at h
      | some vx =>
        cases vx <;> (try simp only [hx] at h) <;> (try (cases h; done))
        rename_i j
        injection h with h
        subst h
        have hv := rf.ev hx
        have : ∃ b z, a.eval it = .pointer (some ⟨b, 0, none⟩) ∧ K.μ j = some (b, z) := by
          generalize a.eval it = v at hv
          cases hv with
          | it i b z hm => exact ⟨b, z, rfl, hm⟩
        obtain ⟨b, z, hb, hm⟩ := this
        refine ⟨b, z, ty, hm, fun w => ?_⟩
        rw [← hb]
        exact runV_of (s := Instr.next (a.eval it) true ty) w
  case extract x k =>
    cases hx : ev fr x with
    | none => simp [hx] at h
    | some vx =>
      cases vx <;> (try simp only [hx] at h) <;> (try (cases h; done))
      obtain ⟨r, h1, rfl⟩ := pv_some h
      exact insim_val (s := Instr.extract (a.eval x) k) (extract_ok h1 (rf.ev hx))
  case makeSlice t n c =>
    cases hu : X.und t with
    | none => simp [hu] at h
    | some d =>
      cases d <;> (try simp only [hu] at h) <;> (try (cases h; done))
      rename_i e
      cases hx : ev fr n with
      | none => simp [hx] at h
      | some vn =>
        cases hy : ev fr c with
        | none => simp [hx, hy] at h
        | some vc =>
          simp only [hx, hy] at h
          split at h <;> (try (cases h; done))
          rename_i z sz b n' c' e1 e2 e3 e4 e5
          cases hb : ((c' * (b + 1)).blt most && n'.beq c' && z.length.beq sz && !sz.beq 0) with
          | false => simp [hb] at h
          | true =>
            simp [hb] at h
            subst h
            simp only [Bool.and_eq_true, Bool.not_eq_true'] at hb
            obtain ⟨⟨⟨b1, b2⟩, b3⟩, b4⟩ := hb
            have hnc := beq_of b2
            subst hnc
            obtain ⟨k1, i1, q1, q2, q3⟩ := asN_spec (rf.ev hx) e4
            obtain ⟨k2, i2, p1, p2, p3⟩ := asN_spec (rf.ev hy) e5
            have := makeSlice_ok (K := K) (k1 := k1) (k2 := k2) ok hu e1 e2 e3 ⟨q2, q3⟩ ⟨p2, p3⟩ (blt_of b1) (beq_of b3) (Nat.pos_of_ne_zero (bne_of b4))
            rw [← q1, ← p1] at this
            exact this
  case panic x =>
    cases hx : ev fr x with
    | none => simp [hx] at h
    | some vx =>
      cases vx <;> (try simp only [hx] at h) <;> (try (cases h; done))
      injection h with h
      subst h
      exact panic_ok (rf.ev hx)
  case call c =>
    obtain ⟨callee, args, argTypes⟩ := c
    cases callee <;> (try simp only [] at h) <;> (try (cases h; done))
    case value g =>
      cases hx : ev fr g with
      | none => simp [hx] at h
      | some vg =>
        cases hy : evs fr args.toList with
        | none => cases vg <;> simp [hx, hy] at h
        | some as =>
          simp only [hx, hy] at h
          split at h <;> (try (cases h; done))
          rename_i g' first cap as' e1 e2
          injection e1 with e1; injection e2 with e2
          subst e2
          injection h with h
          subst h
          have hg := rf.ev hx
          rw [e1] at hg
          obtain ⟨vs, h1, h2⟩ := callV_ok (P := P) (vas := args.map a.eval) hg (by simpa using rf.evs hy)
          exact ⟨vs, h1, fun w => h2 w⟩
    case builtin b =>
      cases hy : evs fr args.toList with
      | none => simp [hy] at h
      | some as =>
        simp only [hy] at h
        exact callB_ok ok h (vs := args.map a.eval) (by simpa using rf.evs hy)

end
end Go.Aes
set_option linter.unusedVariables false
set_option linter.unusedSimpArgs false
namespace Go.Aes
open Go.RowKit

section
variable {X : Cx} {P : Program} {K : KC} {B : Nat} {W w : World} {H : AH}

/-- cells that read as these -/
def Reads (K : KC) (w : World) (b d : Nat) (cs : List AV) : Prop := ∀ (j : Nat) (a : AV), cs[j]? = some a → ∃ v, w.cell? ⟨b, d + j, none⟩ = some v ∧ RV K a v

theorem run_load1 {b o : Nat} {v : Value} (h : w.cell? ⟨b, o, none⟩ = some v) : (load ⟨b, o, none⟩).run P w = .ok v w := by
  rw [run_load, h]

theorem Reads.cells {b d : Nat} : ∀ {cs : List AV}, Reads K w b d cs → ∃ vs : List Value, RL K cs vs ∧ ∀ (j : Nat) (v : Value), vs[j]? = some v → w.cell? ⟨b, d + j, none⟩ = some v
  | [], h => ⟨[], .nil, fun j v e => by simp at e⟩
  | a :: cs, h => by
    obtain ⟨v, h1, h2⟩ := h 0 a (by simp)
    have hr : Reads K w b (d + 1) cs := fun j x e => by
      obtain ⟨v, g1, g2⟩ := h (j + 1) x (by simpa using e)
      exact ⟨v, by rw [show d + 1 + j = d + (j + 1) by omega]; exact g1, g2⟩
    obtain ⟨vs, g1, g2⟩ := hr.cells
    refine ⟨v :: vs, .cons h2 g1, fun j x e => ?_⟩
    cases j with
    | zero => simp at e; subst e; exact h1
    | succ j => rw [show d + (j + 1) = d + 1 + j by omega]; exact g2 j x (by simpa using e)

theorem Reads.slice {b d o n : Nat} {cs r : List AV} (h : Reads K w b d cs) (hs : slice? cs o n = some r) : Reads K w b (d + o) r := by
  intro j a e
  have hj : j < n := by
    have := (List.getElem?_eq_some_iff.1 e).1
    rw [(slice?_spec hs).2.1] at this
    exact this
  rw [slice?_get hs hj] at e
  obtain ⟨v, h1, h2⟩ := h _ a e
  exact ⟨v, by rw [Nat.add_assoc]; exact h1, h2⟩

theorem run_loadCells' {b d : Nat} {cs : List AV} (h : Reads K w b d cs) : ∃ vs : List Value, RL K cs vs ∧ (loadCells ⟨b, d, none⟩ cs.length).run P w = .ok vs.toArray w := by
  obtain ⟨vs, h1, h2⟩ := h.cells
  refine ⟨vs, h1, ?_⟩
  rw [← h1.len]
  exact run_loadCells_list (P := P) w ⟨b, d, none⟩ vs (fun j v e => by rw [add_plain]; exact h2 j v e)

theorem loadFrom_ok (ok : CxOk X P) {t n b d o : Nat} {ag : Bool} {cs : List AV} {r : AV} (ha : X.isAgg t = some ag) (hs : X.size t = some n) (h : loadFrom ag n cs o = some r) (hr : Reads K w b d cs) :
    ∃ v, (Instr.loadAt t (.pointer (some ⟨b, d + o, none⟩))).run P w = .ok v w ∧ RV K r v := by
  cases ag with
  | true =>
    simp only [loadFrom, cond_true] at h
    obtain ⟨l, hl, rfl⟩ := Option.map_eq_some_iff.1 h
    obtain ⟨vs, h1, h2⟩ := run_loadCells' (P := P) (hr.slice hl)
    rw [(slice?_spec hl).2.1] at h2
    refine ⟨.agg vs.toArray, ?_, h1.agg⟩
    simp only [Instr.loadAt, Instr.sureAddr, loadVar, Sem.run_bind, Sem.run_pure, Result.andThen_ok, ok.run_isAgg ha, ok.run_size hs, if_true, h2]
  | false =>
    simp only [loadFrom, cond_false] at h
    obtain ⟨v, h1, h2⟩ := hr o r h
    refine ⟨v, ?_, h2⟩
    simp only [Instr.loadAt, Instr.sureAddr, loadVar, Sem.run_bind, Sem.run_pure, Result.andThen_ok, ok.run_isAgg ha, Bool.false_eq_true, if_false, run_load1 h1]

theorem RW.reads (h : RW B W K H w) {i b z : Nat} {cs : List AV} (hg : H.get i = some (.cells cs)) (hm : K.μ i = some (b, z)) : Reads K w b 0 cs := by
  intro j a e
  obtain ⟨arr, ty, h1, h2, h3, h4, h5⟩ := h.obj i _ hg b z hm
  have hj : j < arr.size := by have := (List.getElem?_eq_some_iff.1 e).1; omega
  refine ⟨arr[j], ?_, h4 j a _ e (Array.getElem?_eq_getElem hj)⟩
  rw [Nat.zero_add, cell_of_row w b j arr ty (0, 0) h1]
  exact Array.getElem?_eq_getElem hj

theorem RW.readsO (h : RW B W K H w) {i b z t k : Nat} {cs : List AV} (hg : H.get i = some (.obj t k cs)) (hm : K.μ i = some (b, z)) : Reads K w b 0 cs := by
  intro j a e
  obtain ⟨arr, fz, h1, h2, h3, h4, h5, h6⟩ := h.obj i _ hg b z hm
  have hj : j < arr.size := by have := (List.getElem?_eq_some_iff.1 e).1; omega
  refine ⟨arr[j], ?_, h4 j a _ e (Array.getElem?_eq_getElem hj)⟩
  rw [Nat.zero_add, cell_of_row w b j arr t fz h1]
  exact Array.getElem?_eq_getElem hj

theorem RW.readsT (h : RW B W K H w) {i b z : Nat} {te : Option Nat} {cs : List AV} (hg : H.get i = some (.mkT te cs)) (hm : K.μ i = some (b, z)) : Reads K w b 0 cs := by
  cases te with
  | none => exact h.reads hg hm
  | some e => exact h.readsO hg hm

theorem loadAt_ok (ok : CxOk X P) {t : Nat} {a r : AV} {v : Value} (h : loadAt X t a H = some r) (hv : RV K a v) (hw : RW B W K H w) :
    ∃ v', (Instr.loadAt t v).run P w = .ok v' w ∧ RV K r v' := by
  unfold loadAt at h
  cases ha : X.isAgg t with
  | none => simp [ha] at h
  | some ag =>
    cases hs : X.size t with
    | none => simp [ha, hs] at h
    | some n =>
      simp only [ha, hs] at h
      cases a <;> (try simp only [] at h) <;> (try (cases h; done))
      case ptr i o =>
        cases hg : H.get i with
        | none => simp [hg] at h
        | some ob =>
          cases ob <;> (try simp only [hg] at h) <;> (try (cases h; done))
          · rename_i cs
            cases hv with
            | ptr i o b z hm =>
              have := loadFrom_ok ok (d := 0) ha hs h (hw.reads hg hm)
              simpa using this
          · rename_i t' k' cs
            cases hv with
            | ptr i o b z hm =>
              have := loadFrom_ok ok (d := 0) ha hs h (hw.readsO hg hm)
              simpa using this
      case vptr row o =>
        cases hv with
        | vptr row o b d cv hF hV =>
          exact loadFrom_ok ok ha hs h (fun j a e => ⟨cv j, hw.fr _ _ _ (hF j a e), hV j a e⟩)

/-! ### stores -/
theorem run_storeCells : ∀ (vs : List Value) (i : Nat) (w : World) (b o ty : Nat) (arr : Array Value) (fz : Nat × Nat), w.heap[b]? = some (.cells arr ty fz) → (∀ v, v ∈ vs → v.oneCell' = true) →
    o + i + vs.length ≤ arr.size → (∀ j, o + i ≤ j → j < o + i + vs.length → (fz.1 ≤ j && j < fz.2) = false) →
    ∃ arr', (storeCells ⟨b, o, none⟩ vs i).run P w = .ok () { w with heap := w.heap.setIfInBounds b (.cells arr' ty fz) } ∧ arr'.size = arr.size ∧
      ∀ j, arr'[j]? = if o + i ≤ j ∧ j < o + i + vs.length then vs[j - (o + i)]? else arr[j]?
  | [], i, w, b, o, ty, arr, fz, hb, h1, h2, h3 => by
    refine ⟨arr, ?_, rfl, fun j => by rw [if_neg (by simp only [List.length_nil]; omega)]⟩
    have hlt : b < w.heap.size := (Array.getElem?_eq_some_iff.1 hb).1
    have e : w.heap.setIfInBounds b (.cells arr ty fz) = w.heap := by
      apply Array.ext_getElem?
      intro k
      rw [Array.getElem?_setIfInBounds]
      by_cases hk : b = k
      · subst hk; rw [if_pos rfl, if_pos hlt, hb]
      · rw [if_neg hk]
    rw [e]
    rfl
  | v :: vs, i, w, b, o, ty, arr, fz, hb, h1, h2, h3 => by
    simp only [List.length_cons] at h2 h3
    have hlt : b < w.heap.size := (Array.getElem?_eq_some_iff.1 hb).1
    have hoi : o + i < arr.size := by omega
    have hcell : w.cell? ⟨b, o + i, none⟩ = some arr[o + i] := by
      rw [cell_of_row w b (o + i) arr ty fz hb]; exact Array.getElem?_eq_getElem hoi
    have hfz : w.frozen? ⟨b, o + i, none⟩ = false := by
      simp only [World.frozen?, hb]
      exact h3 (o + i) (Nat.le_refl _) (by omega)
    have hset : w.setCell ⟨b, o + i, none⟩ v = { w with heap := w.heap.setIfInBounds b (.cells (arr.setIfInBounds (o + i) v) ty fz) } := by
      unfold World.setCell
      congr 1
      apply Array.ext_getElem?
      intro k
      rw [Array.getElem?_modify, Array.getElem?_setIfInBounds]
      by_cases hk : b = k
      · subst hk; rw [if_pos rfl, if_pos rfl, if_pos hlt, hb]; rfl
      · rw [if_neg hk, if_neg hk]
    have hst : (store ⟨b, o + i, none⟩ v).run P w = .ok () (w.setCell ⟨b, o + i, none⟩ v) := by
      rw [run_store P w _ v _ (h1 v (List.mem_cons_self ..)), hcell]
      simp [hfz]
    obtain ⟨arr', g1, g2, g3⟩ := run_storeCells vs (i + 1) { w with heap := w.heap.setIfInBounds b (.cells (arr.setIfInBounds (o + i) v) ty fz) } b o ty (arr.setIfInBounds (o + i) v) fz
      (by show (w.heap.setIfInBounds b _)[b]? = _; rw [Array.getElem?_setIfInBounds_self_of_lt hlt]) (fun x hx => h1 x (List.mem_cons_of_mem _ hx)) (by simp; omega) (fun j hj hj' => h3 j (by omega) (by omega))
    refine ⟨arr', ?_, by rw [g2]; simp, fun j => ?_⟩
    · simp only [storeCells, Sem.run_bind, add_plain, hst, Result.andThen_ok, hset]
      rw [g1]
      congr 2
      apply Array.ext_getElem?
      intro k
      rw [Array.getElem?_setIfInBounds, Array.getElem?_setIfInBounds, Array.getElem?_setIfInBounds]
      by_cases hk : b = k
      · subst hk; simp
      · rw [if_neg hk, if_neg hk, if_neg hk]
    · rw [g3]
      simp only [List.length_cons]
      by_cases e : j = o + i
      · subst e
        rw [if_neg (by omega), if_pos ⟨by omega, by omega⟩]
        simp [hoi]
      · by_cases e1 : o + (i + 1) ≤ j ∧ j < o + (i + 1) + vs.length
        · rw [if_pos e1, if_pos (by omega)]
          have : j - (o + i) = (j - (o + (i + 1))) + 1 := by omega
          rw [this, List.getElem?_cons_succ]
        · rw [if_neg e1, if_neg (by omega), Array.getElem?_setIfInBounds_ne (by omega)]

theorem storeAt_ok (ok : CxOk X P) {t : Nat} {a x : AV} {va vx : Value} {H' : AH} (h : storeAt X t a x H = some H') (ha : RV K a va) (hx : RV K x vx) (hw : RW B W K H w) :
    ∃ w', (Instr.storeAt t va vx).run P w = .ok () w' ∧ RW B W K H' w' ∧ Fits K H K H' := by
  unfold storeAt at h
  cases hs : X.size t with
  | none => simp [hs] at h
  | some n =>
    cases a <;> (try simp only [hs] at h) <;> (try (cases h; done))
    rename_i i o
    cases hb : (x.cells.length.beq n && allOne x.cells) with
    | false => simp [hb] at h
    | true =>
      simp only [hb, cond_true] at h
      cases hg : H.get i with
      | none => simp [hg] at h
      | some ob =>
        cases ob <;> (try simp only [hg] at h) <;> (try (cases h; done))
        · rename_i cs
          cases hr : setRange cs o x.cells with
          | none => simp [hr] at h
          | some cs' =>
            simp only [hr] at h
            cases hi : H.okI i with
            | false => simp [hi] at h
            | true =>
              simp [hi] at h
              subst h
              cases ha with
              | ptr i o b z hm =>
                obtain ⟨arr, ty, k1, k2, k3, k4, k5⟩ := hw.obj i _ hg b z hm
                have hl := hx.cells
                have hb' := Bool.and_eq_true_iff.1 hb
                have hn := beq_of hb'.1
                obtain ⟨g1, g2, g3⟩ := setRange_spec hr
                have hlen := hl.len
                obtain ⟨arr', s1, s2, s3⟩ := run_storeCells (P := P) vx.cells.toList 0 w b o ty arr (0, 0) k1 (hl.one_ hb'.2) (by omega) (fun j _ _ => by simp)
                have hPW := PW.setRange (arr' := arr') hr (K := K) ⟨by omega, k4⟩ hl s2 (fun j => by simpa using s3 j)
                refine ⟨_, ?_, hw.write (i := i) (b := b) (o := .cells cs) (o' := .cells cs') (H' := H.set i (some (.cells cs'))) hg (own_of hg (by simp [plc, hm])) (.cells arr' ty (0, 0))
                  (fun j => AH.get_set H i j _ hi) (AH.nx_set _ _ _) (by simp) k5 ?_, ⟨.refl K, AH.le_set _ _ _, fun _ _ => ⟨rfl, rfl⟩⟩⟩
                · have hsz : vx.cells.size = n := by simp at hlen; omega
                  simp only [Instr.storeAt, Instr.sureAddr, storeVar, Sem.run_bind, Sem.run_pure, Result.andThen_ok, ok.run_size hs]
                  rw [if_neg (by omega)]
                  exact s1
                · intro b1 z1 hm1
                  rw [hm] at hm1
                  injection hm1 with hm1
                  injection hm1 with e1 e2
                  subst e1; subst e2
                  have hlt : b < w.heap.size := (Array.getElem?_eq_some_iff.1 k1).1
                  exact ⟨arr', ty, by show (w.heap.setIfInBounds b _)[b]? = _; rw [Array.getElem?_setIfInBounds_self_of_lt hlt], by omega, by omega, hPW.2, k5⟩
        · rename_i t' k' cs
          cases hr : setRange cs o x.cells with
          | none => simp [hr] at h
          | some cs' =>
            simp only [hr] at h
            cases hi : (H.okI i && k'.ble 1) with
            | false => simp [hi] at h
            | true =>
              simp only [hi, cond_true, Option.some.injEq] at h
              subst h
              cases ha with
              | ptr i o b z hm =>
                obtain ⟨hi, hk1⟩ := Bool.and_eq_true_iff.1 hi
                obtain ⟨arr, fz, k1, k2, k3, k4, k5, k6, k7⟩ := hw.obj i _ hg b z hm
                obtain rfl := k6 (by simpa using hk1)
                have hl := hx.cells
                have hb' := Bool.and_eq_true_iff.1 hb
                have hn := beq_of hb'.1
                obtain ⟨g1, g2, g3⟩ := setRange_spec hr
                have hlen := hl.len
                obtain ⟨arr', s1, s2, s3⟩ := run_storeCells (P := P) vx.cells.toList 0 w b o t' arr (0, 0) k1 (hl.one_ hb'.2) (by omega) (fun j _ _ => by simp)
                have hPW := PW.setRange (arr' := arr') hr (K := K) ⟨by omega, k4⟩ hl s2 (fun j => by simpa using s3 j)
                refine ⟨_, ?_, hw.write (i := i) (b := b) (o := .obj t' k' cs) (o' := .obj t' k' cs') (H' := H.set i (some (.obj t' k' cs'))) hg (own_of hg (by simp [plc, hm])) (.cells arr' t' (0, 0))
                  (fun j => AH.get_set H i j _ hi) (AH.nx_set _ _ _) (by simp) k5 ?_, ⟨.refl K, AH.le_set _ _ _, fun _ _ => ⟨rfl, rfl⟩⟩⟩
                · have hsz : vx.cells.size = n := by simp at hlen; omega
                  simp only [Instr.storeAt, Instr.sureAddr, storeVar, Sem.run_bind, Sem.run_pure, Result.andThen_ok, ok.run_size hs]
                  rw [if_neg (by omega)]
                  exact s1
                · intro b1 z1 hm1
                  rw [hm] at hm1
                  injection hm1 with hm1
                  injection hm1 with e1 e2
                  subst e1; subst e2
                  have hlt : b < w.heap.size := (Array.getElem?_eq_some_iff.1 k1).1
                  exact ⟨arr', (0, 0), by show (w.heap.setIfInBounds b _)[b]? = _; rw [Array.getElem?_setIfInBounds_self_of_lt hlt], by omega, by omega, hPW.2, k5, fun _ => rfl, fun hk => by have := k7 hk; omega⟩

/-! ### new objects -/
theorem new_ok {s : Sem Next} {o : AO} {wr : Wr} {i : Nat} {H' : AH} (hs : InSim X P K s (.new o wr)) (hn : H.new o = some (i, H')) (hw : RW B W K H w) :
    ∃ v w' K', s.run P w = .ok (.value v) w' ∧ RV K' (wr.mk i) v ∧ RW B W K' H' w' ∧ Fits K H K' H' := by
  obtain ⟨hw1, fit1, hg, hm, hτ, hi⟩ := hw.vnew hn
  have hnx := (AH.new_spec hn).1
  have fit : ∀ z, Fits K H (K.setμ i (w.heap.size, z)) H' := fun z => ⟨KC.le_setμ hm, fit1.nx, fun j hj => ⟨by simp [KC.setμ]; omega, rfl⟩⟩
  cases o with
  | tok => exact hs.elim
  | cells cs =>
    obtain ⟨vs, ty, hl, hr⟩ := hs
    obtain ⟨v, h1, h2⟩ := hr w
    refine ⟨v, _, K.setμ i (w.heap.size, vs.length), h1, h2 _ _ (by simp [KC.setμ]), ?_, fit _⟩
    refine hw1.place hg (by simp) hm hi _ _ (fun K' hK b z hb => ?_)
    subst hK
    simp [KC.setμ] at hb
    obtain ⟨rfl, rfl⟩ := hb
    refine ⟨vs.toArray, ty, by show (w.heap.push _)[w.heap.size]? = _; simp, by simp, by rw [hl.len]; exact Nat.le_refl _, fun j a x e e' => ?_, fun o => hw.noF o⟩
    exact (hl.at_ j a x e (by simpa using e')).mono (KC.le_setμ hm)
  | obj ty k cs =>
    obtain ⟨vs, hl, hr⟩ := hs
    obtain ⟨v, h1, h2⟩ := hr w
    refine ⟨v, _, K.setμ i (w.heap.size, vs.length), h1, h2 _ _ (by simp [KC.setμ]), ?_, fit _⟩
    refine hw1.place hg (by simp) hm hi _ _ (fun K' hK b z hb => ?_)
    subst hK
    simp [KC.setμ] at hb
    obtain ⟨rfl, rfl⟩ := hb
    refine ⟨vs.toArray, (0, 0), by show (w.heap.push _)[w.heap.size]? = _; simp, by simp, by rw [hl.len]; exact Nat.le_refl _, fun j a x e e' => ?_, fun o => hw.noF o, fun _ => rfl, fun _ => hl.len.symm⟩
    exact (hl.at_ j a x e (by simpa using e')).mono (KC.le_setμ hm)
  | map es =>
    obtain ⟨rfl, hr⟩ := hs
    obtain ⟨v, h1, h2⟩ := hr w
    refine ⟨v, _, K.setμ i (w.heap.size, 0), h1, h2 _ _ 0 (by simp [KC.setμ]), ?_, fit _⟩
    refine hw1.place hg (by simp) hm hi _ _ (fun K' hK b z hb => ?_)
    subst hK
    simp [KC.setμ] at hb
    obtain ⟨rfl, rfl⟩ := hb
    exact ⟨#[], 0, by show (w.heap.push _)[w.heap.size]? = _; simp, ⟨rfl, fun j x e h => by simp at h⟩⟩
  | iter rest pos =>
    obtain ⟨sb, hd, hr⟩ := hs
    obtain ⟨v, h1, h2⟩ := hr w
    refine ⟨v, _, K.setμ i (w.heap.size, 0), h1, h2 _ _ 0 (by simp [KC.setμ]), ?_, fit _⟩
    refine hw1.place hg (by simp) hm hi _ _ (fun K' hK b z hb => ?_)
    subst hK
    simp [KC.setμ] at hb
    obtain ⟨rfl, rfl⟩ := hb
    exact ⟨sb, by show (w.heap.push _)[w.heap.size]? = _; simp, hd⟩

theorem row_ok {s : Sem Next} {rows : List (List AV)} {sz : Nat} (hs : InSim X P K s (.row rows sz)) (hw : RW B W K H w) :
    ∃ v w' K', s.run P w = .ok (.value v) w' ∧ RV K' (.sl rows .full) v ∧ RW B W K' H w' ∧ Fits K H K' H := by
  obtain ⟨vs, ty, h0, hr, hl, hrun⟩ := hs
  have le := KC.le_putF (K := K) (b := w.heap.size) (e := 0) (vs := vs) (fun o _ => hw.noF o)
  refine ⟨_, _, K.putF w.heap.size 0 vs, hrun w, ?_, hw.frozen vs.toArray ty (0, 0) vs (fun j v e => by simpa using e), ⟨le, Nat.le_refl _, fun _ _ => ⟨rfl, rfl⟩⟩⟩
  have hv : ∀ (i : Nat) (r : List AV) (j : Nat) (a : AV), rows[i]? = some r → r[j]? = some a → ∃ v, vs[i * sz + j]? = some v ∧ RV K a v := by
    intro i r j a e e'
    exact hl.get (flatten_get hr e e')
  refine .sl rows .full w.heap.size 0 rows.length sz (fun k => vs.getD k Go.undef) h0 hr (fun i r j a e e' => ?_) (fun i r j a e e' => ?_) (Nat.le_refl _) rfl
  · obtain ⟨v, h1, h2⟩ := hv i r j a e e'
    have := KC.putF_at (K := K) (b := w.heap.size) (e := 0) h1
    rw [List.getD_eq_getElem?_getD, h1]
    rw [show 0 + i * sz + j = 0 + (i * sz + j) by omega]
    exact this
  · obtain ⟨v, h1, h2⟩ := hv i r j a e e'
    rw [List.getD_eq_getElem?_getD, h1]
    exact h2.mono le

end
end Go.Aes
set_option linter.unusedVariables false
set_option linter.unusedSimpArgs false
namespace Go.Aes
open Go.RowKit

section
variable {X : Cx} {P : Program} {K : KC} {B : Nat} {W w : World} {H : AH}

theorem bytes_beq (a b : List UInt8) : ((⟨a.toArray⟩ : ByteArray) == ⟨b.toArray⟩) = (a == b) := by
  show (a.toArray == b.toArray) = (a == b)
  simp

theorem keyEq_spec {kd : TypeDesc} {k k' : AV} {vk vk' : Value} {b : Bool} (ht : keyTy kd k = true) (h : keyEq k k' = some b) (hk : RV K k vk) (hk' : RV K k' vk') :
    Instr.sameNow kd vk vk' = some b ∧ (b = true → vk = vk') := by
  unfold keyEq at h
  split at h
  · have e1 := hk.str_inv; have e2 := hk'.str_inv
    subst e1; subst e2
    injection h with h
    subst h
    cases kd <;> simp [keyTy] at ht
    refine ⟨?_, fun hb => ?_⟩
    · simp only [Instr.sameNow, bytes_beq, eqL_spec]
    · rw [eqL_spec] at hb
      have := by simpa using hb
      rw [this]
  · have e1 := hk.int_inv; have e2 := hk'.int_inv
    subst e1; subst e2
    rename_i j a j' c
    cases hd : decide (j = j') with
    | false => simp [hd] at h
    | true =>
      have hj : j = j' := by simpa using hd
      simp [hd] at h
      cases kd <;> simp [keyTy] at ht
      subst hj
      refine ⟨by simp [Instr.sameNow, h], fun hb => ?_⟩
      subst h
      have : a = c := by simpa using hb
      rw [this]
  · cases h

/-- entries, as a list -/
structure EL (K : KC) (es : List (AV × AV)) (l : List MapEntry) : Prop where
  len : l.length = es.length
  at_ : ∀ (j : Nat) (x : AV × AV) (e : MapEntry), es[j]? = some x → l[j]? = some e → RV K x.1 e.key ∧ RV K x.2 e.val

theorem EL.of {es : List (AV × AV)} {ents : Array MapEntry} (h : EntOk K es ents) : EL K es ents.toList :=
  ⟨by simpa using h.len, fun j x e e1 e2 => h.at_ j x e e1 (by simpa using e2)⟩

theorem EL.tail {x : AV × AV} {es : List (AV × AV)} {e : MapEntry} {l : List MapEntry} (h : EL K (x :: es) (e :: l)) : EL K es l :=
  ⟨by have := h.len; simpa using this, fun j y f e1 e2 => h.at_ (j + 1) y f (by simpa using e1) (by simpa using e2)⟩

theorem look_spec {kd : TypeDesc} {k : AV} {vk : Value} (ht : keyTy kd k = true) (hk : RV K k vk) : ∀ (es : List (AV × AV)) (l : List MapEntry) (i : Nat) (r : Option AV), EL K es l → look k es = some r →
    (match r with
      | none => Instr.findNow kd vk l i = some none
      | some v => ∃ j vv, Instr.findNow kd vk l i = some (some (j, vv)) ∧ RV K v vv)
  | [], l, i, r, hl, h => by
    have : l = [] := by have := hl.len; simpa using this
    subst this
    simp [look] at h
    subst h
    rfl
  | (k', v') :: es, l, i, r, hl, h => by
    cases l with
    | nil => have := hl.len; simp at this
    | cons e l =>
      have h0 := hl.at_ 0 (k', v') e (by simp) (by simp)
      simp only [look] at h
      cases hq : keyEq k k' with
      | none => simp [hq] at h
      | some b =>
        obtain ⟨s1, s2⟩ := keyEq_spec ht hq hk h0.1
        cases b with
        | true =>
          simp only [hq, Option.some.injEq] at h
          subst h
          exact ⟨i, e.val, by simp only [Instr.findNow, s1], h0.2⟩
        | false =>
          simp only [hq] at h
          have ih := look_spec ht hk es l (i + 1) r hl.tail h
          simp only [Instr.findNow, s1]
          exact ih

theorem upd_spec {kd : TypeDesc} {k v : AV} {vk : Value} (ht : keyTy kd k = true) (hk : RV K k vk) : ∀ (es es' : List (AV × AV)) (l : List MapEntry) (i : Nat), EL K es l → upd k v es = some es' →
    (Instr.findNow kd vk l i = some none ∧ es' = es ++ [(k, v)]) ∨
    (∃ j vv, Instr.findNow kd vk l i = some (some (i + j, vv)) ∧ es' = es.set j (k, v) ∧ j < es.length ∧ ∀ e, l[j]? = some e → e.key = vk)
  | [], es', l, i, hl, h => by
    have : l = [] := by have := hl.len; simpa using this
    subst this
    simp [upd] at h
    subst h
    exact .inl ⟨rfl, rfl⟩
  | (k', v') :: es, es', l, i, hl, h => by
    cases l with
    | nil => have := hl.len; simp at this
    | cons e l =>
      have h0 := hl.at_ 0 (k', v') e (by simp) (by simp)
      simp only [upd] at h
      cases hq : keyEq k k' with
      | none => simp [hq] at h
      | some b =>
        obtain ⟨s1, s2⟩ := keyEq_spec ht hq hk h0.1
        cases b with
        | true =>
          simp only [hq, Option.some.injEq] at h
          subst h
          refine .inr ⟨0, e.val, by simp only [Instr.findNow, s1]; rfl, rfl, by simp, fun e' he' => ?_⟩
          simp at he'
          subst he'
          exact (s2 rfl).symm
        | false =>
          simp only [hq] at h
          obtain ⟨es2, h2, rfl⟩ := Option.map_eq_some_iff.1 h
          rcases upd_spec ht hk es es2 l (i + 1) hl.tail h2 with ⟨g1, g2⟩ | ⟨j, vv, g1, g2, g3, g4⟩
          · exact .inl ⟨by simp only [Instr.findNow, s1]; exact g1, by rw [g2]; rfl⟩
          · refine .inr ⟨j + 1, vv, by simp only [Instr.findNow, s1]; rw [g1]; congr 3; omega, by rw [g2]; rfl, by simp; omega, fun e' he' => g4 e' (by simpa using he')⟩

theorem run_checkKey (ok : CxOk X P) {kt : Nat} {kd : TypeDesc} {k : AV} {vk : Value} {em : Bool} (hu : X.und kt = some kd) (ht : keyTy kd k = true) (hk : RV K k vk) (w : World) :
    (Instr.checkKey em 10000 kt vk).run P w = .ok () w := by
  suffices h : ∀ D, (Instr.checkKey em (D + 1) kt vk).run P w = .ok () w from h 9999
  intro D
  cases k <;> (try (cases kd <;> simp [keyTy] at ht; done))
  · cases kd <;> simp [keyTy] at ht
    have := hk.int_inv
    subst this
    simp only [Instr.checkKey, Sem.run_bind, ok.run_und hu, Result.andThen_ok, Sem.run_pure]
  · cases kd <;> simp [keyTy] at ht
    have := hk.str_inv
    subst this
    simp only [Instr.checkKey, Sem.run_bind, ok.run_und hu, Result.andThen_ok, Sem.run_pure]

theorem run_findKey (ok : CxOk X P) {kt : Nat} {kd : TypeDesc} {vk : Value} {l : List MapEntry} {r : Option (Nat × Value)} (hu : X.und kt = some kd) (h : Instr.findNow kd vk l 0 = some r) (w : World) :
    (Instr.findKey kt vk l).run P w = .ok r w := by
  simp only [Instr.findKey, Sem.run_bind, ok.run_und hu, Result.andThen_ok, h, Sem.run_pure]

theorem unZ_ok (ok : CxOk X P) {t : Nat} {z : AV} (h : unZ X t = some z) (K : KC) : ∃ v, (∀ w, (zeroValue t).run P w = .ok v w) ∧ RV K z v := by
  unfold unZ at h
  cases ha : X.isAgg t with
  | none => simp [ha] at h
  | some ag =>
    cases hz : X.zero t with
    | none => cases ag <;> simp [ha, hz] at h
    | some zs =>
      obtain ⟨v, a, ho, hc, hr, h1, h2, h3⟩ := ok.run_zero hz
      refine ⟨v, hr, ?_⟩
      have hv : RV K a v := ofV_spec ho
      cases ag with
      | true =>
        simp [ha, hz] at h
        obtain ⟨cs, rfl⟩ := h1 ha
        simp [AV.cells] at hc
        subst hc
        subst h
        exact hv
      | false =>
        have ho' := h2 ha
        have hcell : a.cells = [a] := by cases a <;> first | rfl | simp [one] at ho'
        rw [hcell] at hc
        subst hc
        simp [ha, hz] at h
        subst h
        exact hv

theorem lookup_ok (ok : CxOk X P) {t : Nat} {m k r : AV} {c : Bool} {vm vk : Value} (h : lookup X t m k c H = some r) (hm : RV K m vm) (hk : RV K k vk) (hw : RW B W K H w) :
    ∃ v, (Instr.lookup t vm vk c).run P w = .ok v w ∧ RV K r v := by
  unfold lookup at h
  cases hu : X.und t with
  | none => simp [hu] at h
  | some d =>
    cases d <;> (try simp only [hu] at h) <;> (try (cases h; done))
    rename_i kt e
    cases hk2 : X.und kt with
    | none => simp [hk2] at h
    | some kd =>
      simp only [hk2] at h
      cases ht : keyTy kd k with
      | false => simp [ht] at h
      | true =>
        simp only [ht, Bool.not_true, cond_false] at h
        have miss : ∀ {z : AV} {zv : Value} {r : AV}, (bif c then AV.tup [z, .bool false] else z) = r → RV K z zv → RV K r (if c then .tuple #[zv, .bool false] else zv) := by
          intro z zv r h hz
          subst h
          cases c
          · exact hz
          · exact (RL.cons hz (.cons (.bool false) .nil)).tup
        have hit : ∀ {z : AV} {zv : Value} {r : AV}, (bif c then AV.tup [z, .bool true] else z) = r → RV K z zv → RV K r (if c then .tuple #[zv, .bool true] else zv) := by
          intro z zv r h hz
          subst h
          cases c
          · exact hz
          · exact (RL.cons hz (.cons (.bool true) .nil)).tup
        cases m <;> (try simp only [] at h) <;> (try (cases h; done))
        rename_i mr
        cases mr with
        | none =>
          simp only [] at h
          obtain ⟨z, hz, rfl⟩ := Option.map_eq_some_iff.1 h
          obtain ⟨zv, hz1, hz2⟩ := unZ_ok ok hz K
          cases hm
          refine ⟨_, ?_, miss rfl hz2⟩
          simp only [Instr.lookup, Sem.run_bind, ok.run_und hu, Result.andThen_ok, Sem.run_pure, run_checkKey ok hk2 ht hk]
          rw [show (Instr.findKey kt vk ([] : List MapEntry)) = Instr.findKey kt vk [] from rfl]
          simp only [Sem.run_bind, run_findKey ok hk2 (rfl : Instr.findNow kd vk [] 0 = some none), Result.andThen_ok, hz1, Sem.run_pure]
        | some r0 =>
          simp only [] at h
          cases hg : H.get r0 with
          | none => simp [hg] at h
          | some ob =>
            cases ob <;> (try simp only [hg] at h) <;> (try (cases h; done))
            rename_i es
            cases hm with
            | map i b z hmu =>
              obtain ⟨ents, clock, k1, k2⟩ := hw.obj r0 _ hg b z hmu
              have hgo : ∀ w', w' = w → (getObj b).run P w' = .ok (.map ents clock) w' := fun w' e => by subst e; exact run_getObj k1 (by intro c e f h; cases h)
              cases hl : look k es with
              | none => simp [hl] at h
              | some q =>
                have hsp := look_spec ht hk es ents.toList 0 q (EL.of k2) hl
                cases q with
                | none =>
                  simp only [hl] at h
                  obtain ⟨z, hz, rfl⟩ := Option.map_eq_some_iff.1 h
                  obtain ⟨zv, hz1, hz2⟩ := unZ_ok ok hz K
                  refine ⟨_, ?_, miss rfl hz2⟩
                  simp only [Instr.lookup, Sem.run_bind, ok.run_und hu, Result.andThen_ok, Sem.run_pure, hgo w rfl, run_checkKey ok hk2 ht hk, run_findKey ok hk2 hsp, hz1]
                | some v =>
                  simp only [hl, Option.some.injEq] at h
                  obtain ⟨j, vv, hf, hv⟩ := hsp
                  refine ⟨_, ?_, hit h hv⟩
                  simp only [Instr.lookup, Sem.run_bind, ok.run_und hu, Result.andThen_ok, Sem.run_pure, hgo w rfl, run_checkKey ok hk2 ht hk, run_findKey ok hk2 hf]

theorem mapSet_ok (ok : CxOk X P) {t : Nat} {m k x : AV} {vm vk vx : Value} {H' : AH} (h : mapSet X t m k x H = some H') (hm : RV K m vm) (hk : RV K k vk) (hx : RV K x vx) (hw : RW B W K H w) :
    ∃ w', (Instr.mapUpdate t vm vk vx).run P w = .ok () w' ∧ RW B W K H' w' ∧ Fits K H K H' := by
  unfold mapSet at h
  cases hu : X.und t with
  | none => simp [hu] at h
  | some d =>
    cases d <;> (try simp only [hu] at h) <;> (try (cases h; done))
    rename_i kt e
    cases hk2 : X.und kt with
    | none => simp [hk2] at h
    | some kd =>
      simp only [hk2] at h
      cases ht : keyTy kd k with
      | false => simp [ht] at h
      | true =>
        simp only [ht, Bool.not_true, cond_false] at h
        cases m <;> (try simp only [] at h) <;> (try (cases h; done))
        rename_i mr
        cases mr with
        | none => simp at h
        | some r0 =>
          simp only [] at h
          cases hi : H.okI r0 with
          | false => simp [hi] at h
          | true =>
          simp only [hi, Bool.not_true, cond_false] at h
          cases hg : H.get r0 with
          | none => simp [hg] at h
          | some ob =>
            cases ob <;> (try simp only [hg] at h) <;> (try (cases h; done))
            rename_i es
            obtain ⟨es', hup, rfl⟩ := Option.map_eq_some_iff.1 h
            cases hm with
            | map i b z hmu =>
              obtain ⟨ents, clock, k1, k2⟩ := hw.obj r0 _ hg b z hmu
              have hlt : b < w.heap.size := (Array.getElem?_eq_some_iff.1 k1).1
              have hgo : (getObj b).run P w = .ok (.map ents clock) w := run_getObj k1 (by intro c e f h; cases h)
              have hset : ∀ o, (setObj b o).run P w = .ok () { w with heap := w.heap.setIfInBounds b o } := by
                intro o
                show Sem.run P (.setObj b o (.pure ())) w = _
                unfold Sem.run
                rw [k1]
                rfl
              have fin : ∀ (ents' : Array MapEntry) (clock' : Nat), EntOk K es' ents' → RW B W K (H.set r0 (some (.map es'))) { w with heap := w.heap.setIfInBounds b (.map ents' clock') } := by
                intro ents' clock' he
                have hFb : ∀ o, K.F b o = none := by
                  intro o
                  cases hf : K.F b o with
                  | none => rfl
                  | some v =>
                    have := hw.fr b o v hf
                    simp [World.cell?, k1] at this
                refine hw.write (i := r0) (b := b) (o := .map es) (o' := .map es') hg (own_of hg (by simp [plc, hmu])) (.map ents' clock') (fun j => AH.get_set H r0 j _ hi) (AH.nx_set _ _ _) (by simp) hFb ?_
                intro b1 z1 hm1
                rw [hmu] at hm1
                injection hm1 with hm1
                injection hm1 with e1 e2
                subst e1
                exact ⟨ents', clock', by show (w.heap.setIfInBounds b _)[b]? = _; rw [Array.getElem?_setIfInBounds_self_of_lt hlt], he⟩
              have hlen := k2.len
              rcases upd_spec ht hk es es' ents.toList 0 (EL.of k2) hup with ⟨g1, g2⟩ | ⟨j, vv, g1, g2, g3, g4⟩
              · refine ⟨_, ?_, fin (ents.push { key := vk, val := vx, born := clock }) (clock + 1) ?_, ⟨.refl K, AH.le_set _ _ _, fun _ _ => ⟨rfl, rfl⟩⟩⟩
                · simp only [Instr.mapUpdate, Sem.run_bind, ok.run_und hu, Result.andThen_ok, hgo, run_checkKey ok hk2 ht hk, run_findKey ok hk2 g1, hset]
                · subst g2
                  refine ⟨by simp [hlen], fun j y e e1 e2 => ?_⟩
                  rw [List.getElem?_append] at e1
                  rw [Array.getElem?_push] at e2
                  rw [hlen] at e2
                  by_cases hj : j < es.length
                  · rw [if_pos hj] at e1
                    rw [if_neg (by omega)] at e2
                    exact k2.at_ j y e e1 e2
                  · rw [if_neg hj] at e1
                    have hj2 : j = es.length := by
                      rcases Nat.lt_or_ge es.length j with h' | h'
                      · rw [if_neg (by omega), Array.getElem?_eq_none (by omega)] at e2; cases e2
                      · omega
                    subst hj2
                    rw [if_pos rfl] at e2
                    simp at e1
                    injection e2 with e2
                    subst e1; subst e2
                    exact ⟨hk, hx⟩
              · have hjl : j < ents.size := by omega
                have hkey : (((ents[j]?).map (·.key)).getD vk) = vk := by
                  rw [Array.getElem?_eq_getElem hjl]
                  have := g4 ents[j] (by simp [hjl])
                  simpa using this
                have hstay : ∀ w', (Instr.keyThatStays vk vk).run P w' = .ok vk w' := by
                  intro w'
                  have hsb : Instr.sameBits 10000 vk vk = true := by
                    cases k <;> (try (cases kd <;> simp [keyTy] at ht; done))
                    · have := hk.int_inv; subst this; simp [Instr.sameBits]
                    · have := hk.str_inv; subst this; simp only [Instr.sameBits, bytes_beq]; simp
                  unfold Instr.keyThatStays
                  rw [hsb]
                  rfl
                refine ⟨_, ?_, fin (ents.modify j fun e => { e with key := vk, val := vx }) clock ?_, ⟨.refl K, AH.le_set _ _ _, fun _ _ => ⟨rfl, rfl⟩⟩⟩
                · rw [Nat.zero_add] at g1
                  simp only [Instr.mapUpdate, Sem.run_bind, ok.run_und hu, Result.andThen_ok, hgo, run_checkKey ok hk2 ht hk, run_findKey ok hk2 g1, hkey, hstay, hset]
                · subst g2
                  refine ⟨by simp [hlen], fun q y e e1 e2 => ?_⟩
                  rw [Array.getElem?_modify] at e2
                  by_cases hq : j = q
                  · subst hq
                    rw [List.getElem?_set_self g3] at e1
                    rw [if_pos rfl, Array.getElem?_eq_getElem hjl] at e2
                    simp at e1 e2
                    subst e1; subst e2
                    exact ⟨hk, hx⟩
                  · rw [List.getElem?_set_ne hq] at e1
                    rw [if_neg hq] at e2
                    exact k2.at_ q y e e1 e2

end
end Go.Aes
set_option linter.unusedVariables false
set_option linter.unusedSimpArgs false
namespace Go.Aes
open Go.RowKit

/-! ### letters -/
theorem get_bang (s : ByteArray) (i : Nat) : s.get! i = (s.data.toList[i]?).getD 0 := by
  show s.data[i]! = _
  by_cases h : i < s.data.size
  · rw [getElem!_pos s.data i h, List.getElem?_eq_getElem (by simpa using h)]
    simp
  · rw [getElem!_neg s.data i h, List.getElem?_eq_none (by simpa using h)]
    rfl

theorem decode_spec (s : ByteArray) (pos : Nat) (b : UInt8) (r : List UInt8) (h : s.data.toList.drop pos = b :: r) : Utf8.decode s pos = decodeL (b :: r) := by
  have hget : ∀ k, (s.get! (pos + k)) = ((b :: r)[k]?).getD 0 := by
    intro k
    rw [get_bang, ← h, List.getElem?_drop]
  have hlen : s.size = pos + (r.length + 1) := by
    have := congrArg List.length h
    simp at this
    have h2 : s.data.toList.length = s.size := by rw [Array.length_toList]; rfl
    simp at h2
    omega
  have hat : ∀ k, 0 < k → (s.get! (pos + k)).toNat = ((r[k - 1]?).getD 0).toNat := by
    intro k hk
    rw [hget]
    obtain ⟨k, rfl⟩ : ∃ m, k = m + 1 := ⟨k - 1, by omega⟩
    simp
  have h0 : s.get! (pos + 0) = b := by rw [hget]; rfl
  have hs : ∀ k, 0 < k → (pos + k < s.size) = (k - 1 < r.length) := fun k hk => propext (by omega)
  have hbeq : ∀ a c : Nat, a.beq c = (a == c) := fun a c => by rw [Bool.eq_iff_iff]; simp
  have hblt : ∀ a c : Nat, a.blt c = decide (a < c) := fun a c => by rw [Bool.eq_iff_iff]; simp [Nat.blt_eq]
  have hble : ∀ a c : Nat, a.ble c = decide (a ≤ c) := fun a c => by rw [Bool.eq_iff_iff]; simp
  unfold Utf8.decode decodeL
  simp only [h0, hs 1 (by omega), hs 2 (by omega), hs 3 (by omega), hat 1 (by omega), hat 2 (by omega), hat 3 (by omega)]
  simp only [Bool.cond_eq_ite, hblt, hble, hbeq, ge_iff_le, decide_eq_true_eq, Bool.and_eq_true, beq_iff_eq, and_assoc]

section
variable {X : Cx} {P : Program} {K : KC} {B : Nat} {W w : World} {H : AH}

theorem next_ok {i b z ty : Nat} {r : AV} {H' : AH} (h : nextAt i H = some (r, H')) (hm : K.μ i = some (b, z)) (hw : RW B W K H w) :
    ∃ v w', (Instr.next (.pointer (some ⟨b, 0, none⟩)) true ty).run P w = .ok v w' ∧ RV K r v ∧ RW B W K H' w' ∧ Fits K H K H' := by
  unfold nextAt at h
  cases hg : H.get i with
  | none => simp [hg] at h
  | some ob =>
    cases ob <;> (try simp only [hg] at h) <;> (try (cases h; done))
    rename_i rest pos
    cases hi : H.okI i with
    | false => simp [hi] at h
    | true =>
      simp only [hi, Bool.not_true, cond_false] at h
      obtain ⟨s, k1, k2⟩ := hw.obj i _ hg b z hm
      have hlt : b < w.heap.size := (Array.getElem?_eq_some_iff.1 k1).1
      have hgo : (getObj b).run P w = .ok (.stringIter s pos) w := run_getObj k1 (by intro c e f h; cases h)
      have hsz : s.data.toList.length = s.size := by rw [Array.length_toList]; rfl
      cases rest with
      | nil =>
        simp at h
        obtain ⟨rfl, rfl⟩ := h
        have hpos : ¬ pos < s.size := by
          have := congrArg List.length k2
          simp at this hsz
          omega
        refine ⟨.tuple #[.bool false], w, ?_, (RL.cons (.bool false) .nil).tup, hw, .refl K H⟩
        simp only [Instr.next, Sem.run_bind, hgo, Result.andThen_ok]
        rw [if_neg hpos]
        rfl
      | cons c cs =>
        simp only [Option.some.injEq, Prod.mk.injEq] at h
        obtain ⟨rfl, rfl⟩ := h
        have hpos : pos < s.size := by
          have := congrArg List.length k2
          simp at this hsz
          omega
        have hd := decode_spec s pos c cs k2
        have hset : ∀ o, (setObj b o).run P w = .ok () { w with heap := w.heap.setIfInBounds b o } := by
          intro o
          show Sem.run P (.setObj b o (.pure ())) w = _
          unfold Sem.run
          rw [k1]
          rfl
        have hFb : ∀ o, K.F b o = none := by
          intro o
          cases hf : K.F b o with
          | none => rfl
          | some v =>
            have := hw.fr b o v hf
            simp [World.cell?, k1] at this
        refine ⟨_, _, ?_, (RL.cons (.bool true) (.cons (.int .i64 pos) (.cons (.int .i32 (decodeL (c :: cs)).1) .nil))).tup, hw.write (i := i) (b := b) (o := .iter (c :: cs) pos)
          (o' := .iter ((c :: cs).drop (decodeL (c :: cs)).2) (pos + (decodeL (c :: cs)).2)) hg (own_of hg (by simp [plc, hm])) (.stringIter s (pos + (decodeL (c :: cs)).2))
          (fun j => AH.get_set H i j _ hi) (AH.nx_set _ _ _) (by simp) hFb ?_, ⟨.refl K, AH.le_set _ _ _, fun _ _ => ⟨rfl, rfl⟩⟩⟩
        · simp only [Instr.next, Sem.run_bind, hgo, Result.andThen_ok]
          rw [if_pos hpos, hd]
          simp only [Sem.run_bind, hset, Result.andThen_ok, Sem.run_pure, goInt]
        · intro b1 z1 hm1
          rw [hm] at hm1
          injection hm1 with hm1
          injection hm1 with e1 e2
          subst e1
          exact ⟨s, by show (w.heap.setIfInBounds b _)[b]? = _; rw [Array.getElem?_setIfInBounds_self_of_lt hlt], by rw [← k2, List.drop_drop]⟩

/-! ### rows that are read -/
theorem RW.rowsRead (hw : RW B W K H w) {n : Nat} {x : AV} {v : Value} {rows : List (List AV)} (h : readRows n x H = some rows) (hv : RV K x v) (hn : 0 < n) :
    (∀ r, r ∈ rows → r.length = n) ∧
    ((rows = [] ∧ ∃ ad c, v = .slice ad 0 c) ∨ (∃ b d c, v = .slice (some ⟨b, d, none⟩) rows.length c ∧ Reads K w b d rows.flatten) ∨
      (∃ s : List UInt8, n = 1 ∧ v = .string ⟨s.toArray⟩ ∧ rows = s.map fun c => [.int .u8 c.toNat])) := by
  unfold readRows at h
  cases x <;> (try simp only [] at h) <;> (try (cases h; done))
  case sl rs tk =>
    cases hb : rs.all (fun r => r.length.beq n) with
    | false => simp [hb] at h
    | true =>
      simp [hb] at h
      subst h
      have hlen : ∀ r, r ∈ rs → r.length = n := fun r hr => beq_of ((List.all_eq_true.1 hb) r hr)
      refine ⟨hlen, ?_⟩
      cases hv with
      | slNil => exact .inl ⟨rfl, none, 0, rfl⟩
      | slE p tk ht => exact .inl ⟨rfl, some p, 0, rfl⟩
      | sl rows tk b d c sz cv h0 hr hF hV hc ht =>
        refine .inr (.inl ⟨b, d, c, rfl, fun j a e => ?_⟩)
        have hfl := flatten_len hlen
        have hjlt : j < rs.length * n := by have := (List.getElem?_eq_some_iff.1 e).1; omega
        have hq : j / n < rs.length := by rw [Nat.div_lt_iff_lt_mul hn]; exact hjlt
        have hmod := Nat.mod_lt j hn
        have hjj : j = (j / n) * n + j % n := by rw [Nat.mul_comm]; exact (Nat.div_add_mod j n).symm
        have hro : rs[j / n]? = some rs[j / n] := List.getElem?_eq_getElem _
        have hrl := hlen _ (List.getElem_mem hq)
        have hcj : rs[j / n][j % n]? = some (rs[j / n][j % n]'(by omega)) := List.getElem?_eq_getElem _
        have := flatten_get hlen hro hcj
        rw [← hjj, e] at this
        injection this with this
        have hsz : sz = n := by rw [← hr _ (List.getElem_mem hq)]; exact hrl
        subst hsz
        refine ⟨cv (j / sz * sz + j % sz), ?_, by rw [this]; exact hV _ _ _ _ hro hcj⟩
        have := hw.fr _ _ _ (hF _ _ _ _ hro hcj)
        rw [Nat.add_assoc, ← hjj] at this
        rw [← hjj]
        exact this
  case hsl i o k c sz g =>
    cases hb : sz.beq n with
    | false => simp [hb] at h
    | true =>
      simp only [hb, cond_true] at h
      have hsz := beq_of hb
      subst hsz
      cases hg : H.get i with
      | none => simp [hg] at h
      | some ob =>
        cases ob <;> (try simp only [hg] at h) <;> (try (cases h; done))
        rename_i cs
        obtain ⟨r, hr, rfl⟩ := Option.map_eq_some_iff.1 h
        obtain ⟨hr1, hr2, hr3⟩ := slice?_spec hr
        have key : ∀ (k : Nat) (r : List AV), r.length = k * sz → (rowsOf sz k r).flatten = r ∧ (∀ x, x ∈ rowsOf sz k r → x.length = sz) ∧ (rowsOf sz k r).length = k := by
          intro k
          induction k with
          | zero =>
            intro r hr
            have : r = [] := by apply List.eq_nil_of_length_eq_zero; omega
            subst this
            exact ⟨rfl, fun x hx => by simp [rowsOf] at hx, rfl⟩
          | succ k ih =>
            intro r hr
            rw [Nat.add_mul] at hr
            obtain ⟨h1, h2, h3⟩ := ih (r.drop sz) (by simp; omega)
            refine ⟨by simp [rowsOf, h1], fun x hx => ?_, by simp [rowsOf, h3]⟩
            simp only [rowsOf, List.mem_cons] at hx
            rcases hx with rfl | hx
            · simp; omega
            · exact h2 x hx
        obtain ⟨f1, f2, f3⟩ := key k r hr2
        refine ⟨f2, ?_⟩
        cases hv with
        | hsl i o o' n c c' b z sz g hm hn' hc hz ho =>
          by_cases hk : k = 0
          · subst hk
            exact .inl ⟨rfl, _, _, rfl⟩
          · have ho' : o' = o := ho.resolve_right (by omega)
            subst ho'
            refine .inr (.inl ⟨b, o', c', by rw [f3], ?_⟩)
            rw [f1]
            have := (hw.reads hg hm).slice hr
            rw [Nat.zero_add] at this
            exact this
  case str s =>
    cases hb : n.beq 1 with
    | false => simp [hb] at h
    | true =>
      simp [hb] at h
      have hn1 := beq_of hb
      subst h
      refine ⟨fun r hr => ?_, .inr (.inr ⟨s, hn1, hv.str_inv, rfl⟩)⟩
      obtain ⟨c, _, rfl⟩ := List.mem_map.1 hr
      simp [hn1]

theorem bytesOf_spec : ∀ {rows : List (List AV)} {s : List UInt8}, bytesOf rows = some s → ∃ ns : List Int, rows = ns.map (fun n => [AV.int .u8 n]) ∧ s = ns.map fun n => UInt8.ofNat n.toNat
  | [], s, h => by simp [bytesOf] at h; subst h; exact ⟨[], rfl, rfl⟩
  | r :: rs, s, h => by
    unfold bytesOf at h
    split at h <;> (try (cases h; done))
    · rename_i e; cases e
    · rename_i n r' e
      injection e with e1 e2
      subst e1; subst e2
      obtain ⟨s', h', rfl⟩ := Option.map_eq_some_iff.1 h
      obtain ⟨ns, g1, g2⟩ := bytesOf_spec h'
      exact ⟨n :: ns, by rw [g1]; rfl, by rw [g2]; rfl⟩

theorem foldl_push (ns : List Int) : ∀ s : ByteArray, (ns.foldl (fun r n => r.push (UInt8.ofNat n.toNat)) s) = ⟨(s.data.toList ++ ns.map fun n => UInt8.ofNat n.toNat).toArray⟩ := by
  induction ns with
  | nil => intro s; simp
  | cons n ns ih =>
    intro s
    simp only [List.foldl_cons, ih]
    congr 1
    simp

theorem bstr_ok {x r : AV} {v : Value} (h : ((readRows 1 x H).bind fun rows => (bytesOf rows).map AV.str) = some r) (hv : RV K x v) (hsl : ∀ s, x ≠ .str s) (hw : RW B W K H w) :
    ∃ v', (Conv.bytesToString v).run P w = .ok v' w ∧ RV K r v' := by
  cases hr : readRows 1 x H with
  | none => simp [hr] at h
  | some rows =>
    simp only [hr, Option.bind_some] at h
    obtain ⟨s, hs, rfl⟩ := Option.map_eq_some_iff.1 h
    obtain ⟨ns, g1, g2⟩ := bytesOf_spec hs
    obtain ⟨h1, h2⟩ := hw.rowsRead hr hv (by omega)
    rcases h2 with ⟨rfl, ad, c, rfl⟩ | ⟨b, d, c, rfl, hrd⟩ | ⟨s', _, rfl, _⟩
    · have hns : ns = [] := by
        cases ns with
        | nil => rfl
        | cons n ns => simp at g1
      subst hns
      subst g2
      cases ad with
      | none => exact ⟨.string .empty, rfl, .str []⟩
      | some ad =>
        refine ⟨_, run_bytesToString (P := P) w ad 0 c [] (by simp [loadCells, loadCellsFrom]), ?_⟩
        exact .str []
    · have hfl : rows.flatten = ns.map (AV.int .u8) := by
        rw [g1]
        clear g1 g2 hs hr hv h1 hrd h
        induction ns with
        | nil => rfl
        | cons n ns ih => simp [ih]
      rw [hfl] at hrd
      obtain ⟨vs, k1, k2⟩ := run_loadCells' (P := P) hrd
      have hvs : vs = ns.map (Value.int .u8) := by
        apply List.ext_getElem?
        intro j
        by_cases hj : j < ns.length
        · have hvj : j < vs.length := by rw [k1.len]; simpa using hj
          have := k1.at_ j (.int .u8 ns[j]) vs[j] (by simp [hj]) (List.getElem?_eq_getElem hvj)
          have := this.int_inv
          rw [List.getElem?_eq_getElem hvj, this]
          simp [hj]
        · rw [List.getElem?_eq_none (by rw [k1.len]; simpa using hj), List.getElem?_eq_none (by simpa using hj)]
      have hlen : rows.length = (ns.map (AV.int .u8)).length := by rw [g1]; simp
      rw [hvs, ← hlen] at k2
      refine ⟨_, run_bytesToString (P := P) w ⟨b, d, none⟩ rows.length c ns k2, ?_⟩
      rw [foldl_push, g2]
      exact .str _
    · cases x <;> first | exact absurd rfl (hsl _) | cases hv

end
end Go.Aes
set_option linter.unusedVariables false
set_option linter.unusedSimpArgs false
namespace Go.Aes
open Go.RowKit

section
variable {X : Cx} {P : Program} {K : KC} {B : Nat} {W w : World} {H H' : AH}

/-- an object that lay nowhere gets a block that is nobody's, and the block is written -/
theorem RW.rehome (h : RW B W K H w) {i b : Nat} {o : AO} (hg : H.get i = some o) (ho : o ≠ .tok) (hm : K.μ i = none) (hi : i < H.nx) (ob : Obj) (z : Nat)
    (hb : B ≤ b ∧ b < w.heap.size) (hno : ∀ j, own K H j ≠ some b) (hF : ∀ o, K.F b o = none)
    (hr : RO (K.setμ i (b, z)) { w with heap := w.heap.setIfInBounds b ob } i o) :
    RW B W (K.setμ i (b, z)) H { w with heap := w.heap.setIfInBounds b ob } := by
  have le := KC.le_setμ (K := K) (x := (b, z)) hm
  have μne : ∀ j, j ≠ i → (K.setμ i (b, z)).μ j = K.μ j := fun j hj => by simp [KC.setμ, hj]
  have ownne : ∀ j, j ≠ i → own (K.setμ i (b, z)) H j = own K H j := by
    intro j hj
    unfold own
    rw [μne j hj]
    rfl
  have owni : own (K.setμ i (b, z)) H i = some b := by
    refine own_of hg ?_
    cases o <;> first | exact absurd rfl ho | simp [plc, KC.setμ]
  have hblk : ∀ k, k ≠ b → (w.heap.setIfInBounds b ob)[k]? = w.heap[k]? := fun k hk => by
    rw [Array.getElem?_setIfInBounds_ne (Ne.symm hk)]
  refine ⟨h.below.trans ⟨rfl, rfl, rfl, by simp, fun k hk => hblk k (by omega)⟩, h.le, ?_, ?_, ?_, ?_, ?_, h.zz⟩
  · intro b' o1 v hf
    have hf' : K.F b' o1 = some v := hf
    have : b' ≠ b := fun e => by subst e; rw [hF] at hf'; cases hf'
    have h2 := h.fr b' o1 v hf'
    rw [← h2]
    exact World.cell?_of_block (hblk b' this)
  · intro j o1 hg1
    by_cases e : j = i
    · subst e
      rw [hg] at hg1
      injection hg1 with hg1
      subst hg1
      exact hr
    · refine (h.obj j o1 hg1).keep le (μne j e) rfl (fun b1 hb1 => ⟨hblk b1 fun e1 => ?_, fun _ => rfl⟩)
      subst e1
      exact hno j (own_of hg1 hb1)
  · intro j b1 hb1
    show B ≤ b1 ∧ b1 < (w.heap.setIfInBounds b ob).size
    rw [Array.size_setIfInBounds]
    by_cases e : j = i
    · subst e; rw [owni] at hb1; injection hb1 with hb1; subst hb1; exact hb
    · rw [ownne j e] at hb1; exact h.low j b1 hb1
  · intro j k b1 hj hk
    by_cases e : j = i
    · by_cases e' : k = i
      · rw [e, e']
      · exfalso
        subst e; rw [owni] at hj; injection hj with hj; subst hj
        rw [ownne k e'] at hk
        exact hno k hk
    · by_cases e' : k = i
      · exfalso
        subst e'; rw [owni] at hk; injection hk with hk; subst hk
        rw [ownne j e] at hj
        exact hno j hj
      · rw [ownne j e] at hj; rw [ownne k e'] at hk
        exact h.sep j k b1 hj hk
  · intro j hj
    rw [μne j (by omega)]
    exact h.fresh j hj

/-! ### the rows of a slice or a string, loaded -/
def lenV : Value → Option Nat
  | .slice _ n _ => some n
  | .string s => some s.size
  | _ => none

theorem firstCells_ok (hw : RW B W K H w) {n : Nat} {x : AV} {v : Value} {rows : List (List AV)} (h : readRows n x H = some rows) (hv : RV K x v) (hn : 0 < n) :
    (∀ r, r ∈ rows → r.length = n) ∧ (∀ w', (Builtin.lenOf v).run P w' = .ok rows.length w') ∧
      ∃ vs : List Value, RL K rows.flatten vs ∧ ∀ w', (∀ a, w'.cell? a = w.cell? a) → (Builtin.firstCells n rows.length v).run P w' = .ok vs.toArray w' := by
  obtain ⟨h1, h2⟩ := hw.rowsRead h hv hn
  refine ⟨h1, ?_⟩
  rcases h2 with ⟨rfl, ad, c, rfl⟩ | ⟨b, d, c, rfl, hrd⟩ | ⟨s, hs, rfl, hrows⟩
  · refine ⟨fun w' => rfl, [], .nil, fun w' _ => ?_⟩
    cases ad with
    | none => rfl
    | some ad => simp [Builtin.firstCells, loadCells, loadCellsFrom]
  · refine ⟨fun w' => rfl, ?_⟩
    obtain ⟨vs, k1, k2⟩ := hrd.cells
    refine ⟨vs, k1, fun w' hw' => ?_⟩
    have hl : rows.length * n = vs.length := by rw [k1.len, flatten_len h1]
    simp only [Builtin.firstCells, hl]
    exact run_loadCells_list (P := P) w' ⟨b, d, none⟩ vs (fun j v e => by rw [add_plain, hw']; exact k2 j v e)
  · subst hrows
    have hsz : (⟨s.toArray⟩ : ByteArray).size = s.length := by simp [ByteArray.size]
    refine ⟨fun w' => by simp [Builtin.lenOf, hsz], s.map fun c => .int .u8 c.toNat, ?_, fun w' _ => ?_⟩
    · have hfl : (s.map fun c => [AV.int .u8 c.toNat]).flatten = s.map fun c => AV.int .u8 c.toNat := by
        clear hsz h h1 hv
        induction s with
        | nil => rfl
        | cons c s ih => simp [ih]
      rw [hfl]
      refine ⟨by simp, fun j x y e e' => ?_⟩
      simp at e e'
      obtain ⟨c, hc, rfl⟩ := e
      obtain ⟨c', hc', rfl⟩ := e'
      rw [hc] at hc'
      injection hc' with hc'
      subst hc'
      exact .int _ _
    · simp only [Builtin.firstCells, List.length_map, Sem.run_pure]
      congr 1
      apply Array.ext'
      simp [ByteArray.data_extract]

theorem growBy_le (nl : Nat) : ∀ (r c M : Nat), c ≤ M → (∀ x, x < nl → x + (x + 768) / 4 ≤ M) → Builtin.growBy nl r c ≤ M
  | 0, c, M, h, _ => h
  | r + 1, c, M, h, hx => by
    simp only [Builtin.growBy]
    split
    · exact h
    · exact growBy_le nl r _ M (hx c (by omega)) hx

theorem nextcap_le (need cap : Nat) (h : cap < need) : Builtin.nextslicecap need cap ≤ 2 * need + 768 := by
  unfold Builtin.nextslicecap
  split
  · omega
  · split
    · omega
    · exact growBy_le need 4 cap _ (by omega) (fun x hx => by omega)

/-- what append does where it must move -/
theorem run_append_move (ok : CxOk X P) {st xt ty e n b L m cap : Nat} {d : TypeDesc} {base : Option Addr} {vx : Value} {old new : List Value} {z : List AV}
    (hu : X.und st = some (.slice e)) (hs : X.size e = some n) (hb : X.bytes e = some b) (hz : X.zero e = some z) (hzl : z.length = n) (hx : X.und xt = some d) (hd : ∀ k, d ≠ .int k)
    (hlen : ∀ w', (Builtin.lenOf vx).run P w' = .ok m w') (hold : ∀ w', (∀ a, w'.cell? a = w.cell? a) → (Builtin.firstCells n L (.slice base L cap)).run P w' = .ok old.toArray w')
    (hnew : ∀ w', (∀ a, w'.cell? a = w.cell? a) → (Builtin.firstCells n m vx).run P w' = .ok new.toArray w') (hbig : (L + m) * (b + 1) < most) (hb5 : b ≤ 100000) (hmove : cap < L + m) :
    ∃ (newCap : Nat) (rest : Array Value), L + m ≤ newCap ∧ rest.size = (newCap - (L + m)) * n ∧
      (Builtin.append_ #[st, xt] ty #[.slice base L cap, vx]).run P w = .ok (.slice (some ⟨w.heap.size, 0, none⟩) (L + m) newCap) (w.drew.alloc (.cells (old.toArray ++ new.toArray ++ rest) e)) := by
  have hm : most = 100000000000000 := rfl
  obtain ⟨ib, hib, hbb⟩ := ok.bytes e b hb
  obtain ⟨zv, a, ho, hc, hzr, _⟩ := ok.run_zero hz
  have hzs : zv.cells.size = n := by
    have := (ofV_spec (K := ⟨fun _ _ => none, fun _ => none, fun _ => none, fun _ _ => True⟩) ho).cells.len
    simp at this
    rw [hc] at this
    omega
  have hq : Question.forced (.appendCap (L + m) cap e) = false := rfl
  refine ⟨Question.cut (.appendCap (L + m) cap e) (w.tape w.drawn (.appendCap (L + m) cap e)), Builtin.zeroCells zv.cells (Question.cut (.appendCap (L + m) cap e) (w.tape w.drawn (.appendCap (L + m) cap e)) - (L + m)), ?_, ?_, ?_⟩
  · show L + m ≤ L + m + _
    omega
  · simp [Builtin.zeroCells, hzs]
  · have hne : ∀ w', (typeInfo e).run P w' = .ok ib w' := fun w' => CxOk.run_info hib w'
    have hbytes : Builtin.nextslicecap (L + m) cap * b ≤ 2 ^ 48 := by
      have h1 := nextcap_le (L + m) cap hmove
      have h2 : Builtin.nextslicecap (L + m) cap * b ≤ (2 * (L + m) + 768) * b := Nat.mul_le_mul_right b h1
      have h3 : (2 * (L + m) + 768) * b = 2 * ((L + m) * b) + 768 * b := by rw [Nat.add_mul, Nat.mul_assoc]
      have h4 : (L + m) * b ≤ (L + m) * (b + 1) := Nat.mul_le_mul_left _ (by omega)
      omega
    have hmt : (match d with | TypeDesc.int k => true | _ => false) = false := by cases d <;> first | rfl | exact absurd rfl (hd _)
    have hin : (L + m : Nat) ≤ 100000000000000 := by
      have : (L + m) * 1 ≤ (L + m) * (b + 1) := Nat.mul_le_mul_left _ (by omega)
      omega
    have h64 : IntKind.i64.max = 9223372036854775807 := rfl
    simp only [Builtin.append_, List.getElem?_toArray, List.getElem?_cons_zero, List.getElem?_cons_succ, Sem.run_bind, ok.run_und hu, Result.andThen_ok, ok.run_size hs, ok.run_und hx, Sem.run_pure, hmt, Bool.false_eq_true, if_false, hlen,
      Bool.not_false, if_true]
    rw [if_neg (by omega : ¬ L + m ≤ cap)]
    simp only [Sem.run_bind, hne, Result.andThen_ok, hbb, false_or]
    rw [if_neg (by rw [h64]; intro h; omega)]
    simp only [Sem.run_bind, hne, Result.andThen_ok, hbb]
    rw [if_neg (by omega)]
    simp only [Sem.run_bind, run_choose, hq, Bool.false_eq_true, if_false, Result.andThen_ok, run_askRoom, hne, World.drew_eq]
    rw [hold w.drew (fun a => rfl)]
    simp only [Result.andThen_ok]
    rw [hnew w.drew (fun a => rfl)]
    simp only [Result.andThen_ok, hzr, Sem.run_bind, run_newRow, Sem.run_pure]
    rfl

end
end Go.Aes
set_option linter.unusedVariables false
set_option linter.unusedSimpArgs false
namespace Go.Aes
open Go.RowKit

section
variable {X : Cx} {P : Program} {K : KC} {B : Nat} {W w : World} {H H' : AH}

/-- what append does where there is room -/
theorem run_append_in (ok : CxOk X P) {st xt ty e n L m cap : Nat} {d : TypeDesc} {base : Option Addr} {vx : Value} {new : List Value}
    (hu : X.und st = some (.slice e)) (hs : X.size e = some n) (hx : X.und xt = some d) (hd : ∀ k, d ≠ .int k)
    (hlen : ∀ w', (Builtin.lenOf vx).run P w' = .ok m w') (hnew : (Builtin.firstCells n m vx).run P w = .ok new.toArray w) (hroom : L + m ≤ cap) {w' : World}
    (hst : ∀ a, base = some a → (storeCells (a.add (L * n)) new).run P w = .ok () w') (hnone : base = none → w' = w) :
    (Builtin.append_ #[st, xt] ty #[.slice base L cap, vx]).run P w = .ok (.slice base (L + m) cap) w' := by
  have hmt : (match d with | TypeDesc.int k => true | _ => false) = false := by cases d <;> first | rfl | exact absurd rfl (hd _)
  simp only [Builtin.append_, List.getElem?_toArray, List.getElem?_cons_zero, List.getElem?_cons_succ, Sem.run_bind, ok.run_und hu, Result.andThen_ok, ok.run_size hs, ok.run_und hx, Sem.run_pure, hmt, Bool.false_eq_true, if_false, hlen,
      Bool.not_false, if_true]
  rw [if_pos hroom]
  simp only [Sem.run_bind, hnew, Result.andThen_ok]
  cases base with
  | none => rw [hnone rfl]; rfl
  | some a => simp only [Sem.run_bind, hst a rfl, Result.andThen_ok]; rfl

/-- new rows behind old ones, the old ones elsewhere known, the new ones just put -/
theorem RV.grow {K' : KC} (le : K.le K') {rows new : List (List AV)} {tk tk' : Tk} {b d c n : Nat} {vs : List Value} (hn : 0 < n) (hr : ∀ r, r ∈ rows → r.length = n) (hr' : ∀ r, r ∈ new → r.length = n)
    (hold : ∀ (i : Nat) (r : List AV) (j : Nat) (a : AV), rows[i]? = some r → r[j]? = some a → ∃ v, K'.F b (d + i * n + j) = some v ∧ RV K' a v)
    (hl : RL K' new.flatten vs) (hF : ∀ (j : Nat) (v : Value), vs[j]? = some v → K'.F b (d + rows.length * n + j) = some v)
    (hc : rows.length + new.length ≤ c) (ht : TkR K' tk' b (d + (rows.length + new.length) * n) (d + c * n) n (rows.length + new.length) c) :
    RV K' (.sl (rows ++ new) tk') (.slice (some ⟨b, d, none⟩) (rows.length + new.length) c) := by
  have key : ∀ (i : Nat) (r : List AV) (j : Nat) (a : AV), (rows ++ new)[i]? = some r → r[j]? = some a → ∃ v, K'.F b (d + i * n + j) = some v ∧ RV K' a v := by
    intro i r j a e e'
    rw [List.getElem?_append] at e
    split at e
    · exact hold i r j a e e'
    · rename_i hi
      obtain ⟨v, h1, h2⟩ := hl.get (flatten_get hr' e e')
      refine ⟨v, ?_, h2⟩
      have := hF _ v h1
      have hx : rows.length * n + (i - rows.length) * n = i * n := by rw [← Nat.add_mul]; congr 1; omega
      rw [show d + rows.length * n + ((i - rows.length) * n + j) = d + (rows.length * n + (i - rows.length) * n) + j by omega, hx] at this
      exact this
  have hr2 : ∀ r, r ∈ rows ++ new → r.length = n := fun r h => by
    rcases List.mem_append.1 h with h | h
    · exact hr r h
    · exact hr' r h
  have := RV.sl (K := K') (rows ++ new) tk' b d c n (fun k => (K'.F b (d + k)).getD Go.undef) hn hr2
    (fun i r j a e e' => by
      obtain ⟨v, h1, h2⟩ := key i r j a e e'
      rw [show d + (i * n + j) = d + i * n + j by omega, h1]; rfl)
    (fun i r j a e e' => by
      obtain ⟨v, h1, h2⟩ := key i r j a e e'
      rw [show d + (i * n + j) = d + i * n + j by omega, h1]; exact h2)
    (by simpa using hc) (by simpa using ht)
  simpa using this

theorem RV.sl_shape {rows : List (List AV)} {tk : Tk} {v : Value} (h : RV K (.sl rows tk) v) : ∃ base c, v = .slice base rows.length c ∧ rows.length ≤ c ∧ (tk = .nil ∨ tk = .full → c = rows.length) := by
  cases h with
  | slNil => exact ⟨none, 0, rfl, Nat.le_refl _, fun _ => rfl⟩
  | slE p tk ht => exact ⟨some p, 0, rfl, Nat.le_refl _, fun _ => rfl⟩
  | sl rows tk b0 d0 c sz cv h0 hrs hF hV hc ht =>
    refine ⟨_, c, rfl, hc, fun h => ?_⟩
    rcases h with rfl | rfl
    · exact ht.elim
    · exact Eq.symm ht

theorem all_len {rows : List (List AV)} {n : Nat} (h : rows.all (fun r => r.length.beq n) = true) : ∀ r, r ∈ rows → r.length = n := fun r hr => beq_of ((List.all_eq_true.1 h) r hr)

theorem app_ok (ok : CxOk X P) {n b : Nat} {x y r : AV} {hm : Bool} {te : Option Nat} {s : Sem Next} (hs : InSim X P K s (.app n b x y hm te)) (h : app n b x y hm te H = some (r, H')) (hw : RW B W K H w) :
    ∃ v w' K', s.run P w = .ok (.value v) w' ∧ RV K' r v ∧ RW B W K' H' w' ∧ Fits K H K' H' := by
  obtain ⟨st, xt, ty, e, d, vx, vy, z, hte, hu, hsz, hbb, hz, hzl, hxu, hd, hx, hy, hrun⟩ := hs
  have fin : ∀ {v : Value} {w' : World}, (Builtin.append_ #[st, xt] ty #[vx, vy]).run P w = .ok v w' → s.run P w = .ok (.value v) w' := by
    intro v w' h
    rw [hrun, runV, h]
    rfl
  unfold app at h
  cases hrd : readRows n y H with
  | none => simp [hrd] at h
  | some new =>
    simp only [hrd] at h
    cases hn0 : (n.beq 0 || !b.ble 100000) with
    | true => simp [hn0] at h
    | false =>
      simp only [hn0, cond_false] at h
      simp only [Bool.or_eq_false_iff, Bool.not_eq_false'] at hn0
      have hn : 0 < n := Nat.pos_of_ne_zero (bne_of hn0.1)
      have hb5 := ble_of hn0.2
      obtain ⟨hr', hlen, nvs, hnl, hnrun⟩ := firstCells_ok (P := P) hw hrd hy hn
      have hnfl := flatten_len hr'
      have hnvs : nvs.length = new.length * n := by rw [hnl.len, hnfl]
      cases x <;> (try simp only [] at h) <;> (try (cases h; done))
      case sl rows tk =>
        cases hc1 : (!((rows.length + new.length) * (b + 1)).blt most || !rows.all (fun r => r.length.beq n)) with
        | true => simp [hc1] at h
        | false =>
          simp only [hc1, cond_false] at h
          simp only [Bool.or_eq_false_iff, Bool.not_eq_false'] at hc1
          have hbig := blt_of hc1.1
          have hr := all_len hc1.2
          -- the move, whatever the token
          have hread : readRows n (.sl rows tk) H = some rows := by simp only [readRows, hc1.2, cond_true]
          have move : ∀ (base : Option Addr) (c : Nat), vx = .slice base rows.length c → c < rows.length + new.length → ∃ (nc : Nat) (rest : Array Value) (ovs : List Value), rows.length + new.length ≤ nc ∧
              rest.size = (nc - (rows.length + new.length)) * n ∧ RL K rows.flatten ovs ∧ ovs.length = rows.length * n ∧
              (Builtin.append_ #[st, xt] ty #[vx, vy]).run P w = .ok (.slice (some ⟨w.heap.size, 0, none⟩) (rows.length + new.length) nc) (w.drew.alloc (.cells (ovs.toArray ++ nvs.toArray ++ rest) e)) := by
            intro base c hv hlt
            obtain ⟨_, _, ovs, hol, horun⟩ := firstCells_ok (P := P) hw hread hx hn
            subst hv
            obtain ⟨nc, rest, q1, q2, q3⟩ := run_append_move (w := w) (ty := ty) ok hu hsz hbb hz hzl hxu hd hlen horun hnrun hbig hb5 hlt
            exact ⟨nc, rest, ovs, q1, q2, hol, by rw [hol.len, flatten_len hr], q3⟩
          -- moved: a new token
          have moved : ∀ (H0 : AH) (base : Option Addr) (c t' : Nat), vx = .slice base rows.length c → c < rows.length + new.length → RW B W K H0 w → H0.nx = H.nx → H0.new .tok = some (t', H') → r = .sl (rows ++ new) (.own t') →
              ∃ v w' K', s.run P w = .ok (.value v) w' ∧ RV K' r v ∧ RW B W K' H' w' ∧ Fits K H K' H' := by
            intro H0 base c t' hv hlt hw0 hnx hnew hre
            obtain ⟨nc, rest, ovs, q1, q2, q3, q4, q5⟩ := move base c hv hlt
            have hnc : (nc - (rows.length + new.length)) * n + (rows.length + new.length) * n = nc * n := by rw [← Nat.add_mul]; congr 1; omega
            have hvl : (ovs ++ nvs).length = (rows.length + new.length) * n := by rw [List.length_append, q4, hnvs, Nat.add_mul]
            obtain ⟨r1, r2⟩ := hw0.drew.tokNew hnew (ovs.toArray ++ nvs.toArray ++ rest) e (0, 0) (ovs ++ nvs) (nc * n) n
              (fun j v hj => by
                have hjl : j < (ovs ++ nvs).length := (List.getElem?_eq_some_iff.1 hj).1
                rw [Array.getElem?_append_left (by simpa using hjl)]
                simpa using hj)
              (by simp [q2, q4, hnvs]; rw [Nat.add_mul] at hnc; omega) (by rw [hvl]; omega) hn (fun o _ _ => by simp)
            refine ⟨_, _, _, fin q5, ?_, r1, ⟨r2.le, by have := r2.nx; omega, fun i hi => r2.old i (by omega)⟩⟩
            subst hre
            have hF : ∀ (j : Nat) (v : Value), (ovs ++ nvs)[j]? = some v → ((K.putF w.drew.heap.size 0 (ovs ++ nvs)).setτ t' (w.drew.heap.size, (ovs ++ nvs).length, nc * n, n)).F w.heap.size j = some v := by
              intro j v hj
              have := KC.putF_at (K := K) (b := w.heap.size) (e := 0) hj
              rw [Nat.zero_add] at this
              exact this
            refine RV.grow (K := K) (tk := .dead) r2.le hn hr hr' ?_ (hnl.mono r2.le) (fun j v hj => ?_) q1 ?_
            · intro i r' j a e1 e2
              obtain ⟨v, h1, h2⟩ := q3.get (flatten_get hr e1 e2)
              refine ⟨v, ?_, h2.mono r2.le⟩
              rw [Nat.zero_add]
              exact hF _ v (by rw [List.getElem?_append_left (List.getElem?_eq_some_iff.1 h1).1]; exact h1)
            · rw [Nat.zero_add]
              exact hF _ v (by rw [List.getElem?_append_right (by omega)]; rw [q4]; simpa using hj)
            · simp only [TkR, KC.setτ, if_true]
              rw [hvl]
              simp
          cases tk <;> (try simp only [] at h) <;> (try (cases h; done))
          case own t =>
            cases hg : H.get t with
            | none => simp [hg] at h
            | some ob =>
              cases ob <;> (try simp only [hg] at h) <;> (try (cases h; done))
              cases hc2 : (hm || !H.okI t || rows.isEmpty || !allOne new.flatten) with
              | true => simp [hc2] at h
              | false =>
                simp only [hc2, cond_false] at h
                simp only [Bool.or_eq_false_iff, Bool.not_eq_false'] at hc2
                obtain ⟨⟨⟨c1, c2⟩, c3⟩, c4⟩ := hc2
                have htlt := c2
                cases hnew : (H.set t none).new .tok with
                | none => simp [hnew] at h
                | some p =>
                  obtain ⟨t', H2⟩ := p
                  simp only [hnew, Option.some.injEq, Prod.mk.injEq] at h
                  obtain ⟨h, rfl⟩ := h
                  cases hx with
                  | slE p tk ht => rcases ht with h | h <;> cases h
                  | sl rows tk b0 d0 c sz cv h0 hrs hF hV hc ht =>
                    have hszn : sz = n := by
                      cases rows with
                      | nil => simp at c3
                      | cons r0 rs => rw [← hrs r0 (List.mem_cons_self ..), hr r0 (List.mem_cons_self ..)]
                    subst hszn
                    have ht' : K.τ t = some (b0, d0 + rows.length * sz, d0 + c * sz, sz) := ht
                    by_cases hroom : rows.length + new.length ≤ c
                    · -- in place
                      obtain ⟨arr, ty0, fz, k1, k2, k3, k4, k5, k6⟩ := hw.obj t .tok hg _ _ _ _ ht'
                      have hmul : rows.length * sz + new.length * sz ≤ c * sz := by rw [← Nat.add_mul]; exact Nat.mul_le_mul_right sz hroom
                      obtain ⟨arr', s1, s2, s3⟩ := run_storeCells (P := P) nvs 0 w b0 (d0 + rows.length * sz) ty0 arr fz k1 (hnl.one_ c4) (by omega) (fun j hj hj' => k5 j (by omega) (by omega))
                      obtain ⟨r1, r2⟩ := hw.tokIn hg ht' htlt hnew arr arr' ty0 fz nvs k1 (by omega) s2 (fun j => by simpa using s3 j)
                      refine ⟨_, _, _, fin (run_append_in (w := w) (ty := ty) ok hu hsz hxu hd hlen (hnrun w (fun a => rfl)) hroom (base := some ⟨b0, d0, none⟩) (fun a ha => ?_) (fun ha => by cases ha)), ?_, r1, ⟨r2.le, ?_, r2.old⟩⟩
                      · injection ha with ha
                        subst ha
                        rw [add_plain]
                        exact s1
                      · subst h
                        refine RV.grow (K := K) (tk := .dead) r2.le hn hr hr' (fun i r' j a e1 e2 => ⟨cv (i * sz + j), r2.le.F _ _ _ (hF i r' j a e1 e2), (hV i r' j a e1 e2).mono r2.le⟩) (hnl.mono r2.le) (fun j v hj => KC.putF_at (K := K) hj) hroom ?_
                        simp only [TkR, KC.setτ, if_true]
                        rw [hnvs, Nat.add_mul]
                        simp [Nat.add_assoc]
                      · exact r2.nx
                    · exact moved (H.set t none) _ c t' rfl (by omega) (hw.kill htlt) (AH.nx_set _ _ _) hnew h.symm
          all_goals
            -- nil, or full: where something comes it moves
            cases hne : new.isEmpty with
            | true =>
              have hnil : new = [] := by simpa using hne
              subst hnil
              simp at h
              obtain ⟨rfl, rfl⟩ := h
              have hnvs0 : nvs = [] := by apply List.eq_nil_of_length_eq_zero; simpa using hnvs
              subst hnvs0
              obtain ⟨base, c, hvx, hcc, _⟩ := hx.sl_shape
              refine ⟨vx, w, K, ?_, hx, hw, .refl K H⟩
              have := run_append_in (w := w) (w' := w) (ty := ty) (L := rows.length) (m := 0) (cap := c) (base := base) ok hu hsz hxu hd hlen (hnrun w (fun a => rfl)) (by simpa using hcc) (fun a ha => rfl) (fun ha => rfl)
              rw [← hvx] at this
              have h2 := fin this
              rw [h2, hvx]
              simp
            | false =>
              simp only [hne, cond_false] at h
              have hpos : 0 < new.length := by
                cases new with
                | nil => simp at hne
                | cons a l => simp
              obtain ⟨base, c, hvx, _, hcc0⟩ := hx.sl_shape
              have hcc : c < rows.length + new.length := by have := hcc0 (by simp); omega
              cases hmm : hm with
              | true =>
                simp only [hmm, cond_true] at h
                cases hnew : H.new (.mkT te (rows ++ new).flatten) with
                | none => rw [hnew] at h; cases h
                | some p =>
                  obtain ⟨i, H2⟩ := p
                  simp only [hnew, Option.some.injEq, Prod.mk.injEq] at h
                  obtain ⟨h, rfl⟩ := h
                  obtain ⟨nc, rest, ovs, q1, q2, q3, q4, q5⟩ := move base c hvx hcc
                  have hnc : (nc - (rows.length + new.length)) * n + (rows.length + new.length) * n = nc * n := by rw [← Nat.add_mul]; congr 1; omega
                  have hsize : (ovs.toArray ++ nvs.toArray ++ rest).size = nc * n := by simp [q2, q4, hnvs]; rw [Nat.add_mul] at hnc; omega
                  obtain ⟨hw1, fit1, hgi, hmi, hτi, hii⟩ := hw.drew.vnew hnew
                  have hnx := (AH.new_spec hnew).1
                  have hp := hw1.place hgi mkT_tok hmi hii (.cells (ovs.toArray ++ nvs.toArray ++ rest) e) (nc * n) (fun K' hK => RO_mkT.2 fun b1 z1 hb1 => by
                    subst hK
                    simp [KC.setμ] at hb1
                    obtain ⟨rfl, rfl⟩ := hb1
                    refine ⟨_, e, by show (w.heap.push _)[w.heap.size]? = _; simp, hsize, ?_, fun j a x e1 e2 => ?_, fun o => hw.noF o, fun e' he => hte e' he⟩
                    · rw [List.flatten_append, List.length_append, flatten_len hr, hnfl]; rw [Nat.add_mul] at hnc; omega
                    · rw [List.flatten_append] at e1
                      have hl2 := q3.append hnl
                      have hj : j < (ovs ++ nvs).length := by rw [hl2.len]; exact (List.getElem?_eq_some_iff.1 e1).1
                      rw [Array.getElem?_append_left (by simpa using hj)] at e2
                      exact (hl2.at_ j a x e1 (by simpa using e2)).mono (KC.le_setμ hmi))
                  refine ⟨_, _, _, fin q5, ?_, hp, ⟨KC.le_setμ hmi, fit1.nx, fun j hj => ⟨by simp [KC.setμ]; omega, rfl⟩⟩⟩
                  subst h
                  exact .hsl i 0 0 _ _ nc w.heap.size (nc * n) n true (by simp [KC.setμ]) (Nat.le_refl _) q1 (fun _ => by omega) (.inl rfl)
              | false =>
                simp only [hmm, cond_false] at h
                cases hnew : H.new .tok with
                | none => simp [hnew] at h
                | some p =>
                  obtain ⟨t', H2⟩ := p
                  simp only [hnew, Option.some.injEq, Prod.mk.injEq] at h
                  obtain ⟨h, rfl⟩ := h
                  exact moved H base c t' hvx hcc hw rfl hnew h.symm
      case hsl i o k c sz g =>
        cases hc1 : (!g || !((k + new.length) * (b + 1)).blt most || !sz.beq n || !o.beq 0 || !H.okI i || !allOne new.flatten) with
        | true => simp [hc1] at h
        | false =>
          simp only [hc1, cond_false] at h
          simp only [Bool.or_eq_false_iff, Bool.not_eq_false'] at hc1
          obtain ⟨⟨⟨⟨⟨c1, c2⟩, c3⟩, c4⟩, c5⟩, c6⟩ := hc1
          have hbig := blt_of c2
          have hszn := beq_of c3
          have ho0 := beq_of c4
          have hilt := c5
          subst hszn; subst ho0
          cases hx with
          | hsl i o o' k c c' b0 z0 sz g hmi hkc hcc hz0 ho' =>
            have hz1 := hz0 c1
            rw [Nat.zero_add] at hz1
            cases hne : new.isEmpty with
            | true =>
              have hnil : new = [] := by simpa using hne
              subst hnil
              simp at h
              obtain ⟨rfl, rfl⟩ := h
              have hnvs0 : nvs = [] := by apply List.eq_nil_of_length_eq_zero; simpa using hnvs
              subst hnvs0
              refine ⟨_, w, K, ?_, .hsl i 0 o' k c c' b0 z0 sz g hmi hkc hcc hz0 ho', hw, .refl K H⟩
              have := run_append_in (w := w) (w' := w) (ty := ty) (L := k) (m := 0) (cap := c') (base := some ⟨b0, o', none⟩) ok hu hsz hxu hd hlen (hnrun w (fun a => rfl)) (by omega) (fun a ha => rfl) (fun ha => rfl)
              exact fin this
            | false =>
              simp only [hne, cond_false] at h
              have hpos : 0 < new.length := by
                cases new with
                | nil => simp at hne
                | cons a l => simp
              cases hg : H.get i with
              | none => simp [hg] at h
              | some ob =>
                simp only [hg] at h
                cases hun : ob.unT te with
                | none => simp [hun] at h
                | some cs =>
                obtain rfl := unT_spec hun
                simp only [hun] at h
                cases hsl : slice? cs 0 (k * sz) with
                | none => simp [hsl] at h
                | some old =>
                  simp only [hsl] at h
                  cases hnew : (H.set i none).new (.mkT te (old ++ new.flatten)) with
                  | none => simp [hnew] at h
                  | some p =>
                    obtain ⟨j, H2⟩ := p
                    simp only [hnew, Option.some.injEq, Prod.mk.injEq] at h
                    obtain ⟨h, rfl⟩ := h
                    obtain ⟨arr, ty0, a1, a2, a3, a4, a5, a6⟩ := RO_mkT.1 (hw.obj i _ hg) b0 z0 hmi
                    have hk0 := hw.kill (t := i) hilt
                    obtain ⟨hw1, fit1, hgj, hmj, hτj, hjj⟩ := hk0.vnew hnew
                    have hnx := (AH.new_spec hnew).1
                    have hnx0 : (H.set i none).nx = H.nx := AH.nx_set _ _ _
                    obtain ⟨o1, o2, o3⟩ := slice?_spec hsl
                    have holdl : old.length = k * sz := o2
                    have hown0 : own K H i = some b0 := own_of hg (by rw [plc_mkT, hmi]; rfl)
                    obtain ⟨hlo, hhi⟩ := hw.low i b0 hown0
                    have hfits : ∀ x, Fits K H (K.setμ j x) H2 := fun x => ⟨KC.le_setμ hmj, by have := fit1.nx; omega, fun q hq => ⟨by simp [KC.setμ]; omega, rfl⟩⟩
                    by_cases hroom : k + new.length ≤ c'
                    · have ho2 : o' = 0 := ho'.resolve_right (by omega)
                      subst ho2
                      have hmul : k * sz + new.length * sz ≤ c' * sz := by rw [← Nat.add_mul]; exact Nat.mul_le_mul_right sz hroom
                      obtain ⟨arr', s1, s2, s3⟩ := run_storeCells (P := P) nvs 0 w b0 (k * sz) ty0 arr (0, 0) a1 (hnl.one_ c6) (by omega) (fun j hj hj' => by simp)
                      have hp := hw1.rehome hgj mkT_tok hmj hjj (.cells arr' ty0 (0, 0)) z0 ⟨hlo, hhi⟩ (fun q hq => by
                        obtain ⟨oq, hq1, hq2⟩ := own_some hq
                        have hgq := (AH.new_spec hnew).2.2.2 q
                        rw [AH.get_set H i q none hilt] at hgq
                        by_cases e1 : q = j
                        · subst e1
                          rw [hgj] at hq1
                          injection hq1 with hq1
                          subst hq1
                          rw [plc_mkT, hmj] at hq2; cases hq2
                        · rw [if_neg e1] at hgq
                          by_cases e2 : q = i
                          · rw [if_pos e2] at hgq; rw [hgq] at hq1; cases hq1
                          · rw [if_neg e2] at hgq
                            rw [hgq] at hq1
                            exact e2 (hw.sep q i b0 (own_of hq1 hq2) hown0)) a5 (RO_mkT.2 fun b1 z1 hb1 => by
                        simp [KC.setμ] at hb1
                        obtain ⟨rfl, rfl⟩ := hb1
                        refine ⟨arr', ty0, by show (w.heap.setIfInBounds b0 _)[b0]? = _; rw [Array.getElem?_setIfInBounds_self_of_lt hhi], by omega, by rw [List.length_append, holdl, hnfl]; omega, fun q a x e1 e2 => ?_, a5, a6⟩
                        rw [List.getElem?_append] at e1
                        rw [s3] at e2
                        rw [holdl] at e1
                        by_cases hq : q < k * sz
                        · rw [if_pos hq] at e1
                          rw [if_neg (by omega)] at e2
                          rw [slice?_get hsl hq] at e1
                          rw [Nat.zero_add] at e1
                          exact (a4 q a x e1 e2).mono (KC.le_setμ hmj)
                        · rw [if_neg hq] at e1
                          have hq2 : q - k * sz < new.length * sz := by have := (List.getElem?_eq_some_iff.1 e1).1; omega
                          rw [if_pos (by omega)] at e2
                          exact (hnl.at_ _ a x e1 (by simpa using e2)).mono (KC.le_setμ hmj))
                      refine ⟨_, _, _, fin (run_append_in (w := w) (ty := ty) ok hu hsz hxu hd hlen (hnrun w (fun a => rfl)) hroom (base := some ⟨b0, 0, none⟩) (fun a ha => ?_) (fun ha => by cases ha)), ?_, hp, hfits _⟩
                      · injection ha with ha
                        subst ha
                        rw [add_plain, Nat.zero_add]
                        exact s1
                      · subst h
                        exact .hsl j 0 0 _ _ c' b0 z0 sz true (by simp [KC.setμ]) (Nat.le_refl _) hroom (fun _ => by omega) (.inl rfl)
                    · -- it moves
                      have hmv : ∃ ovs : List Value, RL K old ovs ∧ ∀ w', (∀ a, w'.cell? a = w.cell? a) → (Builtin.firstCells sz k (.slice (some ⟨b0, o', none⟩) k c')).run P w' = .ok ovs.toArray w' := by
                        by_cases hk : k = 0
                        · subst hk
                          have : old = [] := by apply List.eq_nil_of_length_eq_zero; simpa using holdl
                          subst this
                          exact ⟨[], .nil, fun w' _ => by simp [Builtin.firstCells, loadCells, loadCellsFrom]⟩
                        · have ho2 : o' = 0 := ho'.resolve_right (by omega)
                          subst ho2
                          have hrd2 := (hw.readsT hg hmi).slice hsl
                          obtain ⟨ovs, k1, k2⟩ := hrd2.cells
                          refine ⟨ovs, k1, fun w' hw' => ?_⟩
                          have hl : k * sz = ovs.length := by rw [k1.len, holdl]
                          simp only [Builtin.firstCells, hl]
                          exact run_loadCells_list (P := P) w' ⟨b0, 0, none⟩ ovs (fun j v e => by rw [add_plain, hw']; have := k2 j v e; simpa using this)
                      obtain ⟨ovs, hol, horun⟩ := hmv
                      obtain ⟨nc, rest, q1, q2, q3⟩ := run_append_move (w := w) (ty := ty) ok hu hsz hbb hz hzl hxu hd hlen horun hnrun hbig hb5 (by omega)
                      have hnc : (nc - (k + new.length)) * sz + (k + new.length) * sz = nc * sz := by rw [← Nat.add_mul]; congr 1; omega
                      have hovl : ovs.length = k * sz := by rw [hol.len, holdl]
                      have hsize : (ovs.toArray ++ nvs.toArray ++ rest).size = nc * sz := by simp [q2, hovl, hnvs]; rw [Nat.add_mul] at hnc; omega
                      have hp := hw1.drew.place hgj mkT_tok hmj hjj (.cells (ovs.toArray ++ nvs.toArray ++ rest) e) (nc * sz) (fun K' hK => RO_mkT.2 fun b1 z1 hb1 => by
                        subst hK
                        simp [KC.setμ] at hb1
                        obtain ⟨rfl, rfl⟩ := hb1
                        refine ⟨_, e, by show (w.heap.push _)[w.heap.size]? = _; simp, hsize, ?_, fun j' a x e1 e2 => ?_, fun o => hw.noF o, fun e' he => hte e' he⟩
                        · rw [List.length_append, holdl, hnfl]; rw [Nat.add_mul] at hnc; omega
                        · have hl2 := hol.append hnl
                          have hj : j' < (ovs ++ nvs).length := by rw [hl2.len]; exact (List.getElem?_eq_some_iff.1 e1).1
                          rw [Array.getElem?_append_left (by simpa using hj)] at e2
                          exact (hl2.at_ j' a x e1 (by simpa using e2)).mono (KC.le_setμ hmj))
                      refine ⟨_, _, _, fin q3, ?_, hp, hfits _⟩
                      subst h
                      exact .hsl j 0 0 _ _ nc w.heap.size (nc * sz) sz true (by simp [KC.setμ]) (Nat.le_refl _) q1 (fun _ => by omega) (.inl rfl)

end
end Go.Aes
set_option linter.unusedVariables false
set_option linter.unusedSimpArgs false
namespace Go.Aes
open Go.RowKit

def CPost (B : Nat) (W : World) (K : KC) (H : AH) : Res → Ending → World → Prop
  | .val v H', .returned v', w' => ∃ K', RV K' v v' ∧ RW B W K' H' w' ∧ Fits K H K' H'
  | .panic v H', .panicked ch, w' => ∃ v' K', ch = [{ v := v', recovered := false }] ∧ RV K' v v' ∧ RW B W K' H' w' ∧ Fits K H K' H'
  | _, _, _ => False

structure CallOk (P : Program) (B : Nat) (W : World) (C : CallF) : Prop where
  fn : ∀ g as H r, C g as H = some r → ∃ fn, P.funcs[g]? = some fn ∧ (fn.name == "runtime.NumGoroutine") = false ∧ fn.body.isSome = true
  call : ∀ g as H r, C g as H = some r → ∀ K w vs, RW B W K H w → RL K as vs → Calls P g vs.toArray w (CPost B W K H r)

section
variable {X : Cx} {P : Program} {K : KC} {B : Nat} {W w : World} {H H' : AH} {C : CallF}

theorem wp_of_value {o : Oper} {a : Act} {v : Value} {w' : World} {next : Act → World → Prop} {Q : Exit → Act → World → Prop} (h : (execOp a.eval o).run P w = .ok (.value v) w') (hn : next (a.put o.dst v) w') : o.wp P a w next Q := by
  unfold Oper.wp
  rw [h]
  exact hn

theorem wp_of_skip {o : Oper} {a : Act} {w' : World} {next : Act → World → Prop} {Q : Exit → Act → World → Prop} (h : (execOp a.eval o).run P w = .ok .skip w') (hn : next (a.put o.dst Go.undef) w') : o.wp P a w next Q := by
  unfold Oper.wp
  rw [h]
  exact hn

theorem exec_wp (ok : CxOk X P) (hc : CallOk P B W C) {o : Oper} {a : Act} {i : In} {r : Res} (h : exec X C i H = some r) (hi : InSim X P K (execOp a.eval o) i) (hw : RW B W K H w)
    {next : Act → World → Prop} {Q : Exit → Act → World → Prop}
    (hv : ∀ v H' v' K' w', r = .val v H' → Fits K H K' H' → RV K' v v' → RW B W K' H' w' → next (a.put o.dst v') w')
    (hp : ∀ v H' v' K' w', r = .panic v H' → Fits K H K' H' → RV K' v v' → RW B W K' H' w' → Q (.panic [{ v := v', recovered := false }]) a w') : o.wp P a w next Q := by
  cases i with
  | val v =>
    simp only [exec, Option.some.injEq] at h
    subst h
    obtain ⟨v', h1, h2⟩ := hi
    exact wp_of_value (h1 w) (hv v H v' K w rfl (.refl K H) h2 hw)
  | row rows sz =>
    simp only [exec, Option.some.injEq] at h
    subst h
    obtain ⟨v', w', K', h1, h2, h3, h4⟩ := row_ok hi hw
    exact wp_of_value h1 (hv _ _ v' K' w' rfl h4 h2 h3)
  | new ob wr =>
    simp only [exec, v2] at h
    cases hn : H.new ob with
    | none => simp [hn] at h
    | some p =>
      obtain ⟨j, H2⟩ := p
      simp [hn] at h
      subst h
      obtain ⟨v', w', K', h1, h2, h3, h4⟩ := new_ok hi hn hw
      exact wp_of_value h1 (hv _ _ v' K' w' rfl h4 h2 h3)
  | load t x =>
    simp only [exec, v1] at h
    obtain ⟨v, h1, rfl⟩ := Option.map_eq_some_iff.1 h
    obtain ⟨vx, hx, hrun⟩ := hi
    obtain ⟨v', h2, h3⟩ := loadAt_ok ok h1 hx hw
    exact wp_of_value (by rw [hrun, runV, h2]; rfl) (hv _ _ v' K w rfl (.refl K H) h3 hw)
  | look t m k c =>
    simp only [exec, v1] at h
    obtain ⟨v, h1, rfl⟩ := Option.map_eq_some_iff.1 h
    obtain ⟨vm, vk, hm, hk, hrun⟩ := hi
    obtain ⟨v', h2, h3⟩ := lookup_ok ok h1 hm hk hw
    exact wp_of_value (by rw [hrun, runV, h2]; rfl) (hv _ _ v' K w rfl (.refl K H) h3 hw)
  | mlen q =>
    simp only [exec] at h
    cases hg : H.get q with
    | none => simp [hg] at h
    | some ob =>
      cases ob <;> (try simp only [hg] at h) <;> (try (cases h; done))
      rename_i es
      injection h with h
      subst h
      obtain ⟨b, z, hm, hrun⟩ := hi
      obtain ⟨ents, clock, k1, k2⟩ := hw.obj q _ hg b z hm
      refine wp_of_value (hrun w ents clock k1) (hv _ _ _ K w rfl (.refl K H) ?_ hw)
      rw [k2.len]
      exact .int _ _
  | bstr x =>
    simp only [exec, v1] at h
    cases hsl : isSl x with
    | false => simp [hsl] at h
    | true =>
    simp only [hsl, cond_true] at h
    obtain ⟨v, h1, rfl⟩ := Option.map_eq_some_iff.1 h
    obtain ⟨vx, hx, hrun⟩ := hi
    obtain ⟨v', h2, h3⟩ := bstr_ok h1 hx (fun s e => by subst e; simp [isSl] at hsl) hw
    exact wp_of_value (by rw [hrun, runV, h2]; rfl) (hv _ _ v' K w rfl (.refl K H) h3 hw)
  | store t x y =>
    simp only [exec, u1] at h
    obtain ⟨H2, h1, rfl⟩ := Option.map_eq_some_iff.1 h
    obtain ⟨vx, vy, hx, hy, hrun⟩ := hi
    obtain ⟨w', h2, h3, h4⟩ := storeAt_ok ok h1 hx hy hw
    exact wp_of_skip (by rw [hrun, runU, h2]; rfl) (hv _ _ _ K w' rfl h4 .undef h3)
  | mset t m k y =>
    simp only [exec, u1] at h
    obtain ⟨H2, h1, rfl⟩ := Option.map_eq_some_iff.1 h
    obtain ⟨vm, vk, vy, hm, hk, hy, hrun⟩ := hi
    obtain ⟨w', h2, h3, h4⟩ := mapSet_ok ok h1 hm hk hy hw
    exact wp_of_skip (by rw [hrun, runU, h2]; rfl) (hv _ _ _ K w' rfl h4 .undef h3)
  | next j =>
    simp only [exec, v2] at h
    obtain ⟨p, h1, rfl⟩ := Option.map_eq_some_iff.1 h
    obtain ⟨b, z, ty, hm, hrun⟩ := hi
    obtain ⟨v', w', h2, h3, h4, h5⟩ := next_ok (P := P) (ty := ty) h1 hm hw
    exact wp_of_value (by rw [hrun, runV, h2]; rfl) (hv _ _ v' K w' rfl h5 h3 h4)
  | app n b x y hm te =>
    simp only [exec, v2] at h
    obtain ⟨p, h1, rfl⟩ := Option.map_eq_some_iff.1 h
    obtain ⟨v', w', K', h2, h3, h4, h5⟩ := app_ok ok hi h1 hw
    exact wp_of_value h2 (hv _ _ v' K' w' rfl h5 h3 h4)
  | call g as =>
    simp only [exec] at h
    obtain ⟨vs, hvs, hrun⟩ := hi
    obtain ⟨fn, h1, h2, h3⟩ := hc.fn g as H r h
    have hcf : (callFunc g vs.toArray).run P w = .ok (.enter g vs.toArray) w := by
      have h4 : fn.body.isNone = false := by cases hb : fn.body <;> simp [hb] at h3 ⊢
      simp only [callFunc, Sem.run_bind, run_program, Result.andThen_ok, h1, h2, h4, Bool.false_eq_true, if_false, Sem.run_pure]
    unfold Oper.wp
    rw [hrun, hcf]
    refine (hc.call g as H r h K w vs hw hvs).mono fun e w' he => ?_
    cases r with
    | val v H2 =>
      cases e with
      | returned v' => obtain ⟨K', g1, g2, g3⟩ := he; exact hv _ _ v' K' w' rfl g3 g1 g2
      | panicked ch => exact he.elim
      | outgrown => exact he.elim
    | panic v H2 =>
      cases e with
      | returned v' => exact he.elim
      | panicked ch => obtain ⟨v', K', rfl, g1, g2, g3⟩ := he; exact hp _ _ v' K' w' rfl g3 g1 g2
      | outgrown => exact he.elim
  | panic v =>
    simp only [exec, Option.some.injEq] at h
    subst h
    obtain ⟨v', h1, h2⟩ := hi
    unfold Oper.wp
    rw [h2]
    exact hp _ _ v' K w rfl (.refl K H) h1 hw

def exOf (e : Ex) (v : Value) : Exit :=
  match e with
  | .normal => .normal
  | .exit id => .exit id
  | .ret => .ret
  | .panic _ => .panic [{ v := v, recovered := false }]

/-- the frame where the code is left -/
def RFe (ds : List Deferred) (e : Ex) (K : KC) (nt : Nat) (fr : Fr) (a : Act) : Prop :=
  match e with
  | .panic _ => a.defers = ds
  | _ => RF ds K nt fr a

/-- what is known where the code is left -/
def Sat (ds : List Deferred) (B : Nat) (W : World) (nt : Nat) (K : KC) (H : AH) (e : Ex) (s : St) (Q : Exit → Act → World → Prop) : Prop :=
  ∀ K' a' w' v', Fits K H K' s.H → RFe ds e K' nt s.fr a' → RW B W K' s.H w' → (∀ v, e = .panic v → RV K' v v') → Q (exOf e v') a' w'

theorem Sat.step {ds : List Deferred} {nt : Nat} {K' : KC} {e : Ex} {s : St} {Q : Exit → Act → World → Prop} (h : Sat ds B W nt K H e s Q) (f : Fits K H K' H') : Sat ds B W nt K' H' e s Q :=
  fun K2 a2 w2 v2 f2 rf rw hv => h K2 a2 w2 v2 (f.trans f2) rf rw hv

theorem aops_wp (ok : CxOk X P) (hc : CallOk P B W C) {ds : List Deferred} {f nt : Nat} (hnt : nt < 2 ^ 39) (ops : Array Oper) : ∀ (l : List Oper) (s s' : St) (e : Ex) (K : KC) (a : Act) (w : World) (Q : Exit → Act → World → Prop),
    aops X C f nt ops.toList l s = some (e, s') → RF ds K nt s.fr a → RW B W K s.H w → Sat ds B W nt K s.H e s' Q → wpList P ops Q l a w
  | [], s, s', e, K, a, w, Q, h, rf, hw, sat => by
    simp [aops] at h
    obtain ⟨rfl, rfl⟩ := h
    exact sat K a w Go.undef (.refl K s.H) rf hw (fun v hv => by cases hv)
  | o :: r, s, s', e, K, a, w, Q, h, rf, hw, sat => by
    simp only [aops] at h
    cases hd : dstOk nt o.dst with
    | false => simp [hd] at h
    | true =>
      simp only [hd, Bool.not_true, cond_false] at h
      have hwant := rf.wanted ops o
      unfold wpList
      rw [hwant]
      cases hwb : wantedB s.fr ops.toList o with
      | false =>
        simp only [hwb, cond_false] at h
        simp only [Bool.false_eq_true, if_false]
        exact aops_wp ok hc hnt ops r _ s' e K _ w Q h (rf.put hnt hd .undef) hw sat
      | true =>
        simp only [hwb, cond_true] at h
        simp only [if_true]
        cases hin : inst X f s.fr o with
        | none => simp [hin] at h
        | some i =>
          simp only [hin] at h
          cases hex : exec X C i s.H with
          | none => simp [hex] at h
          | some res =>
            refine .inl (exec_wp ok hc hex (inst_sim ok hin rf) hw ?_ ?_)
            · intro v H2 v' K' w' hr f1 hv hw'
              subst hr
              simp only [hex] at h
              exact aops_wp ok hc hnt ops r _ s' e K' _ w' Q h ((rf.mono f1.le).put hnt hd hv) hw' (sat.step f1)
            · intro v H2 v' K' w' hr f1 hv hw'
              subst hr
              simp only [hex, Option.some.injEq, Prod.mk.injEq] at h
              obtain ⟨rfl, rfl⟩ := h
              exact sat K' a w' v' f1 rf.defers hw' (fun v0 h0 => by injection h0 with h0; subst h0; exact hv)

end
end Go.Aes
