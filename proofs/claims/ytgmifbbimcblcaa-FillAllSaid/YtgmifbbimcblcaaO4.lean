import Derived.Test.YtgmifbbimcblcaaO3
set_option linter.all false
set_option linter.unusedVariables false
set_option linter.unusedSimpArgs false
namespace Go.Aes
open Go.RowKit

section
variable {X : Cx} {P : Program} {K : KC}

/-! ### slices of what there is -/
/-- optional operands -/
inductive RO' (K : KC) : Option AV → Option Value → Prop where
  | none : RO' K none none
  | some (a : AV) (v : Value) (h : RV K a v) : RO' K (some a) (some v)

theorem bnd_spec {x : Option AV} {v : Option Value} {d m k : Nat} (h : bnd x d m = some k) (hv : RO' K x v) :
    (v = none ∧ k = d) ∨ (∃ ik n, v = some (.int ik n) ∧ 0 ≤ n ∧ n.toNat = k ∧ k ≤ m) := by
  cases hv with
  | none => simp [bnd] at h; exact .inl ⟨rfl, h.symm⟩
  | some a v hv =>
    simp only [bnd] at h
    cases hk : asN a with
    | none => simp [hk] at h
    | some k' =>
      simp only [hk] at h
      cases hb : k'.ble m with
      | false => simp [hb] at h
      | true =>
        simp [hb] at h
        subst h
        obtain ⟨ik, n, rfl, h1, h2⟩ := asN_spec hv hk
        exact .inr ⟨ik, n, rfl, h1, h2, ble_of hb⟩

theorem run_sliceBound {P : Program} {ik : IntKind} {n : Int} {y : Nat} {code : BoundsCode} (h0 : 0 ≤ n) (h1 : n.toNat ≤ y) (w : World) : (Instr.sliceBound (.int ik n) y code).run P w = .ok n.toNat w := by
  have h2 : 0 ≤ n ∧ n ≤ (y : Int) := ⟨h0, by omega⟩
  simp [Instr.sliceBound, asIntOf, h2.1, h2.2]

/-- the bounds, no third one -/
theorem run_bounds2 {P : Program} {isS : Bool} {len cap h l : Nat} {hi lo : Option AV} {vhi vlo : Option Value} (hh : bnd hi len len = some h) (hl : bnd lo 0 h = some l)
    (hvh : RO' K hi vhi) (hvl : RO' K lo vlo) (hc : len ≤ cap) (w : World) : (Instr.sliceBounds isS len cap vlo vhi none).run P w = .ok (l, h, cap) w ∧ l ≤ h ∧ h ≤ len := by
  have hhl : h ≤ len := by
    rcases bnd_spec hh hvh with ⟨rfl, rfl⟩ | ⟨ik, n, rfl, h0, h1, h2⟩ <;> omega
  have hll : l ≤ h := by
    rcases bnd_spec hl hvl with ⟨rfl, rfl⟩ | ⟨ik, n, rfl, h0, h1, h2⟩ <;> omega
  refine ⟨?_, hll, hhl⟩
  rcases bnd_spec hh hvh with ⟨rfl, rfl⟩ | ⟨ik, n, rfl, h0, h1, h2⟩
  · rcases bnd_spec hl hvl with ⟨rfl, rfl⟩ | ⟨ik, n, rfl, h0, h1, h2⟩
    · simp [Instr.sliceBounds]
    · simp [Instr.sliceBounds, run_sliceBound h0 (by omega : n.toNat ≤ h), h1]
  · rcases bnd_spec hl hvl with ⟨rfl, rfl⟩ | ⟨ik', n', rfl, h0', h1', h2'⟩
    · simp [Instr.sliceBounds, run_sliceBound h0 (by omega : n.toNat ≤ cap), h1]
    · simp [Instr.sliceBounds, run_sliceBound h0 (by omega : n.toNat ≤ cap), h1, run_sliceBound h0' (by omega : n'.toNat ≤ h), h1']

theorem run_bounds2' {P : Program} {isS : Bool} {len cap c h l : Nat} {hi lo : Option AV} {vhi vlo : Option Value} (hh : bnd hi len c = some h) (hl : bnd lo 0 h = some l)
    (hvh : RO' K hi vhi) (hvl : RO' K lo vlo) (hc : c ≤ cap) (hlc : len ≤ c) (w : World) : (Instr.sliceBounds isS len cap vlo vhi none).run P w = .ok (l, h, cap) w ∧ l ≤ h ∧ h ≤ c := by
  have hhl : h ≤ c := by
    rcases bnd_spec hh hvh with ⟨rfl, rfl⟩ | ⟨ik, n, rfl, h0, h1, h2⟩ <;> omega
  have hll : l ≤ h := by
    rcases bnd_spec hl hvl with ⟨rfl, rfl⟩ | ⟨ik, n, rfl, h0, h1, h2⟩ <;> omega
  refine ⟨?_, hll, hhl⟩
  rcases bnd_spec hh hvh with ⟨rfl, rfl⟩ | ⟨ik, n, rfl, h0, h1, h2⟩
  · rcases bnd_spec hl hvl with ⟨rfl, rfl⟩ | ⟨ik, n, rfl, h0, h1, h2⟩
    · simp [Instr.sliceBounds]
    · simp [Instr.sliceBounds, run_sliceBound h0 (by omega : n.toNat ≤ h), h1]
  · rcases bnd_spec hl hvl with ⟨rfl, rfl⟩ | ⟨ik', n', rfl, h0', h1', h2'⟩
    · simp [Instr.sliceBounds, run_sliceBound h0 (by omega : n.toNat ≤ cap), h1]
    · simp [Instr.sliceBounds, run_sliceBound h0 (by omega : n.toNat ≤ cap), h1, run_sliceBound h0' (by omega : n'.toNat ≤ h), h1']

theorem run_bounds3 {P : Program} {len cap c m h l : Nat} {mx hi : AV} {vmx vhi : Value} {lo : Option AV} {vlo : Option Value} (hm : bnd (some mx) 0 c = some m) (hh : bnd (some hi) 0 m = some h)
    (hl : bnd lo 0 h = some l) (hvm : RV K mx vmx) (hvh : RV K hi vhi) (hvl : RO' K lo vlo) (hc : c ≤ cap) (w : World) :
    (Instr.sliceBounds true len cap vlo (some vhi) (some vmx)).run P w = .ok (l, h, m) w ∧ l ≤ h ∧ h ≤ m ∧ m ≤ c := by
  rcases bnd_spec hm (.some _ _ hvm) with ⟨hx, _⟩ | ⟨ik, n, hx, h0, h1, h2⟩
  · cases hx
  rcases bnd_spec hh (.some _ _ hvh) with ⟨hy, _⟩ | ⟨ik', n', hy, h0', h1', h2'⟩
  · cases hy
  injection hx with hx; injection hy with hy
  subst hx; subst hy
  have hll : l ≤ h := by
    rcases bnd_spec hl hvl with ⟨rfl, rfl⟩ | ⟨ik, n, rfl, h0, h1, h2⟩ <;> omega
  refine ⟨?_, hll, h2', h2⟩
  rcases bnd_spec hl hvl with ⟨rfl, rfl⟩ | ⟨ik3, n3, rfl, h03, h13, h23⟩
  · simp [Instr.sliceBounds, run_sliceBound h0 (by omega : n.toNat ≤ cap), h1, run_sliceBound h0' (by omega : n'.toNat ≤ m), h1']
  · simp [Instr.sliceBounds, run_sliceBound h0 (by omega : n.toNat ≤ cap), h1, run_sliceBound h0' (by omega : n'.toNat ≤ m), h1', run_sliceBound h03 (by omega : n3.toNat ≤ h), h13]

/-- a cut of rows lies where it lay -/
theorem RV.cut {rows : List (List AV)} {tk' : Tk} {b d sz l h c' : Nat} {cv : Nat → Value} (h0 : 0 < sz) (hr : ∀ r, r ∈ rows → r.length = sz)
    (hF : ∀ (i : Nat) (r : List AV) (j : Nat) (a : AV), rows[i]? = some r → r[j]? = some a → K.F b (d + i * sz + j) = some (cv (i * sz + j)))
    (hv : ∀ (i : Nat) (r : List AV) (j : Nat) (a : AV), rows[i]? = some r → r[j]? = some a → RV K a (cv (i * sz + j)))
    (hl : l ≤ h) (hh : h ≤ rows.length) (hc : h - l ≤ c') (ht : TkR K tk' b (d + l * sz + (h - l) * sz) (d + l * sz + c' * sz) sz (h - l) c') :
    RV K (.sl ((rows.take h).drop l) tk') (.slice (some ⟨b, d + l * sz, none⟩) (h - l) c') := by
  have hlen : ((rows.take h).drop l).length = h - l := by simp; omega
  have key : ∀ (i : Nat) (r : List AV), ((rows.take h).drop l)[i]? = some r → rows[l + i]? = some r := by
    intro i r e
    rw [List.getElem?_drop, List.getElem?_take] at e
    split at e
    · exact e
    · cases e
  have := RV.sl (K := K) ((rows.take h).drop l) tk' b (d + l * sz) c' sz (fun j => cv (l * sz + j)) h0
    (fun r hr' => hr r (List.mem_of_mem_take (List.mem_of_mem_drop hr')))
    (fun i r j a e e' => by
      have := hF (l + i) r j a (key i r e) e'
      rw [Nat.add_mul] at this
      rw [show d + l * sz + i * sz + j = d + (l * sz + i * sz) + j by omega, this]
      congr 1; congr 1; omega)
    (fun i r j a e e' => by
      have := hv (l + i) r j a (key i r e) e'
      rw [Nat.add_mul] at this
      rw [show l * sz + (i * sz + j) = l * sz + i * sz + j by omega]; exact this)
    (by rw [hlen]; exact hc) (by rw [hlen]; exact ht)
  rw [hlen] at this
  exact this

theorem sliceOp_ok (ok : CxOk X P) {t : Nat} {x b : AV} {lo hi mx : Option AV} {v : Value} {vlo vhi vmx : Option Value} (h : sliceOp X t x lo hi mx = some b)
    (hx : RV K x v) (hlo : RO' K lo vlo) (hhi : RO' K hi vhi) (hmx : RO' K mx vmx) : PureOk P K (Instr.sliceAt t v vlo vhi vmx) b := by
  unfold sliceOp at h
  cases hu : X.und t with
  | none => simp [hu] at h
  | some d =>
    simp only [hu] at h
    cases d <;> (try simp only [] at h) <;> try (cases h; done)
    case string =>
      cases x <;> (try simp only [] at h) <;> try (cases h; done)
      case str s =>
        have := hx.str_inv
        subst this
        cases hmx with
        | some a v hm => simp at h
        | none =>
          simp only [] at h
          cases hh : bnd hi s.length s.length with
          | none => simp [hh] at h
          | some hN =>
            simp only [hh] at h
            cases hl : bnd lo 0 hN with
            | none => simp [hl] at h
            | some l =>
              simp only [hl, Option.some.injEq] at h
              subst h
              have hr := fun w => (run_bounds2 (P := P) (isS := false) (cap := s.length) hh hl hhi hlo (Nat.le_refl _) w).1
              obtain ⟨_, hle, hle2⟩ := run_bounds2 (P := P) (isS := false) (cap := s.length) hh hl hhi hlo (Nat.le_refl _) default
              have hsz : (⟨s.toArray⟩ : ByteArray).size = s.length := by simp [ByteArray.size]
              refine ⟨.string ((⟨s.toArray⟩ : ByteArray).extract l hN), fun w => ?_, ?_⟩
              · simp [Instr.sliceAt, Instr.slice, ok.run_und hu, hsz, hr]
              · have e : (⟨s.toArray⟩ : ByteArray).extract l hN = ⟨((s.take hN).drop l).toArray⟩ := by
                  apply ByteArray.ext
                  simp [ByteArray.data_extract]
                  rw [List.drop_take]
                rw [e]; exact .str _
    case array n e =>
      cases x <;> (try simp only [] at h) <;> try (cases h; done)
      case ptr i o =>
        cases hmx with
        | some a v hm => simp at h
        | none =>
          cases hs : X.size e with
          | none => simp [hs] at h
          | some sz =>
            simp only [hs] at h
            cases hh : bnd hi n n with
            | none => simp [hh] at h
            | some hN =>
              simp only [hh] at h
              cases hl : bnd lo 0 hN with
              | none => simp [hl] at h
              | some l =>
                simp only [hl, Option.some.injEq] at h
                subst h
                have hr := fun w => (run_bounds2 (P := P) (isS := false) (cap := n) hh hl hhi hlo (Nat.le_refl _) w).1
                obtain ⟨_, hle, hle2⟩ := run_bounds2 (P := P) (isS := false) (cap := n) hh hl hhi hlo (Nat.le_refl _) default
                cases hx with
                | ptr i o b z hm =>
                  refine ⟨.slice (some (if n = l then ⟨b, o, none⟩ else (⟨b, o, none⟩ : Addr).add (l * sz))) (hN - l) (n - l), fun w => ?_, ?_⟩
                  · simp [Instr.sliceAt, ok.run_und hu, Instr.sureAddr, hr, ok.run_size hs]
                  · by_cases e1 : n = l
                    · rw [if_pos e1]
                      exact .hsl i _ o _ _ _ b z sz false hm (by omega) (Nat.le_refl _) (fun h => by cases h) (.inr (by omega))
                    · rw [if_neg e1, add_plain]
                      exact .hsl i _ _ _ _ _ b z sz false hm (by omega) (Nat.le_refl _) (fun h => by cases h) (.inl rfl)
    case slice e =>
      cases x <;> (try simp only [] at h) <;> try (cases h; done)
      case sl rows tk =>
        cases hs : X.size e with
        | none => simp [hs] at h
        | some sE =>
        simp only [hs] at h
        cases hb : headOk rows sE with
        | false => simp [hb] at h
        | true =>
        simp only [hb, Bool.not_true, cond_false] at h
        have hsz : ∀ {sz l : Nat}, (∀ r, r ∈ rows → r.length = sz) → l ≤ rows.length → l * sE = l * sz := by
          intro sz l hr hl
          cases rows with
          | nil => have : l = 0 := by simpa using hl
                   subst this; simp
          | cons r rs =>
            have e1 : r.length = sE := beq_of hb
            have e2 := hr r (List.mem_cons_self ..)
            rw [← e1, e2]
        cases hmx with
        | none =>
          simp only [] at h
          cases hh : bnd hi rows.length rows.length with
          | none => simp [hh] at h
          | some hN =>
            simp only [hh] at h
            cases hl : bnd lo 0 hN with
            | none => simp [hl] at h
            | some l =>
              simp only [hl, Option.some.injEq] at h
              subst h
              cases hx with
              | slNil =>
                have hr := fun w => (run_bounds2 (P := P) (isS := true) (cap := 0) hh hl hhi hlo (Nat.le_refl _) w).1
                obtain ⟨_, hle, hle2⟩ := run_bounds2 (P := P) (isS := true) (cap := 0) hh hl hhi hlo (Nat.le_refl _) default
                simp at hle2
                subst hle2
                have hl0 : l = 0 := by omega
                subst hl0
                simp at hr
                refine ⟨.slice none 0 0, fun w => ?_, ?_⟩
                · simp [Instr.sliceAt, Instr.slice, ok.run_und hu, hr, ok.run_size hs]
                · simpa [cutTk] using RV.slNil
              | slE p tk ht =>
                have hr := fun w => (run_bounds2 (P := P) (isS := true) (cap := 0) hh hl hhi hlo (Nat.le_refl _) w).1
                obtain ⟨_, hle, hle2⟩ := run_bounds2 (P := P) (isS := true) (cap := 0) hh hl hhi hlo (Nat.le_refl _) default
                simp at hle2
                subst hle2
                have hl0 : l = 0 := by omega
                subst hl0
                simp at hr
                refine ⟨.slice (some p) 0 0, fun w => ?_, ?_⟩
                · simp [Instr.sliceAt, Instr.slice, ok.run_und hu, hr, ok.run_size hs]
                · rcases ht with rfl | rfl
                  · simpa [cutTk] using RV.slE p .dead (.inl rfl)
                  · simpa [cutTk] using RV.slE p .full (.inr rfl)
              | sl rows tk b d c sz cv h0 hr hF hv hc ht =>
                have hrun := fun w => (run_bounds2 (P := P) (isS := true) (cap := c) hh hl hhi hlo hc w).1
                obtain ⟨_, hle, hle2⟩ := run_bounds2 (P := P) (isS := true) (cap := c) hh hl hhi hlo hc default
                have hmul := hsz (l := l) hr (by omega)
                by_cases e1 : c = l
                · -- nothing is left: it lies where it lay
                  refine ⟨.slice (some ⟨b, d, none⟩) (hN - l) (c - l), fun w => ?_, ?_⟩
                  · simp only [Instr.sliceAt, Instr.slice, Sem.run_bind, ok.run_und hu, hrun, ok.run_size hs, Result.andThen_ok, Sem.run_pure, if_pos e1]
                  · have e2 : hN - l = 0 := by omega
                    have e3 : c - l = 0 := by omega
                    have e4 : (rows.take hN).drop l = [] := by apply List.eq_nil_of_length_eq_zero; simp; omega
                    rw [e2, e3, e4]
                    refine .sl [] _ b d 0 sz cv h0 (fun r hr => by cases hr) (fun i r j a e => by simp at e) (fun i r j a e => by simp at e) (Nat.le_refl _) ?_
                    cases tk with
                    | nil => exact ht.elim
                    | dead => trivial
                    | full => simp only [cutTk]; cases hN.beq rows.length <;> simp [TkR]
                    | own t => simp only [cutTk]; cases hq : (hN.beq rows.length && l.blt hN) with
                      | false => simp [TkR]
                      | true => have := blt_of (Bool.and_eq_true_iff.1 hq).2; omega
                · refine ⟨.slice (some ⟨b, d + l * sz, none⟩) (hN - l) (c - l), fun w => ?_, ?_⟩
                  · simp [Instr.sliceAt, Instr.slice, ok.run_und hu, hrun, ok.run_size hs, e1, add_plain, hmul]
                  · refine RV.cut h0 hr hF hv hle hle2 (by omega) ?_
                    cases tk with
                    | nil => exact ht.elim
                    | dead => trivial
                    | full =>
                      simp only [cutTk]
                      cases hq : hN.beq rows.length with
                      | false => trivial
                      | true => have := beq_of hq; have ht' : rows.length = c := ht; simp [TkR]; omega
                    | own t =>
                      simp only [cutTk]
                      cases hq : (hN.beq rows.length && l.blt hN) with
                      | false => trivial
                      | true =>
                        have := beq_of (Bool.and_eq_true_iff.1 hq).1
                        have ht' : K.τ t = some (b, d + rows.length * sz, d + c * sz, sz) := ht
                        simp only [cond_true, TkR, ht']
                        have hx1 : l * sz + (hN - l) * sz = rows.length * sz := by rw [← Nat.add_mul]; congr 1; omega
                        have hx2 : l * sz + (c - l) * sz = c * sz := by rw [← Nat.add_mul]; congr 1; omega
                        rw [← hx1, ← hx2]
                        simp [Nat.add_assoc]
        | some a v hm =>
          simp only [] at h
          cases hmm : bnd (some a) 0 rows.length with
          | none => simp [hmm] at h
          | some m =>
            simp only [hmm] at h
            cases hhi with
            | none => simp at h
            | some ah vh hvh =>
              simp only [] at h
              cases hh : bnd (some ah) 0 m with
              | none => simp [hh] at h
              | some hN =>
                simp only [hh] at h
                cases hl : bnd lo 0 hN with
                | none => simp [hl] at h
                | some l =>
                  simp only [hl, Option.some.injEq] at h
                  subst h
                  cases hx with
                  | slNil =>
                    have hr := fun w => (run_bounds3 (P := P) (len := 0) (cap := 0) (hi := ah) (mx := a) hmm hh hl hm hvh hlo (Nat.le_refl _) w).1
                    obtain ⟨_, hle, hle2, hle3⟩ := run_bounds3 (P := P) (len := 0) (cap := 0) (hi := ah) (mx := a) hmm hh hl hm hvh hlo (Nat.le_refl _) default
                    simp at hle3
                    subst hle3
                    have hN0 : hN = 0 := by omega
                    subst hN0
                    have hl0 : l = 0 := by omega
                    subst hl0
                    refine ⟨.slice none 0 0, fun w => ?_, ?_⟩
                    · simp [Instr.sliceAt, Instr.slice, ok.run_und hu, hr, ok.run_size hs]
                    · simpa [cutTk3] using RV.slNil
                  | slE p tk ht =>
                    have hr := fun w => (run_bounds3 (P := P) (len := 0) (cap := 0) (hi := ah) (mx := a) hmm hh hl hm hvh hlo (Nat.le_refl _) w).1
                    obtain ⟨_, hle, hle2, hle3⟩ := run_bounds3 (P := P) (len := 0) (cap := 0) (hi := ah) (mx := a) hmm hh hl hm hvh hlo (Nat.le_refl _) default
                    simp at hle3
                    subst hle3
                    have hN0 : hN = 0 := by omega
                    subst hN0
                    have hl0 : l = 0 := by omega
                    subst hl0
                    refine ⟨.slice (some p) 0 0, fun w => ?_, ?_⟩
                    · simp [Instr.sliceAt, Instr.slice, ok.run_und hu, hr, ok.run_size hs]
                    · rcases ht with rfl | rfl <;> simpa [cutTk3] using RV.slE p .full (.inr rfl)
                  | sl rows tk b d c sz cv h0 hr hF hv hc ht =>
                    have hrun := fun w => (run_bounds3 (P := P) (len := rows.length) (cap := c) (hi := ah) (mx := a) hmm hh hl hm hvh hlo hc w).1
                    obtain ⟨_, hle, hle2, hle3⟩ := run_bounds3 (P := P) (len := rows.length) (cap := c) (hi := ah) (mx := a) hmm hh hl hm hvh hlo hc default
                    have hmul := hsz (l := l) hr (by omega)
                    have htk : ∀ (e z : Nat), TkR K (cutTk3 tk hN m) b e z sz (hN - l) (m - l) := by
                      intro e z
                      cases tk with
                      | nil => exact ht.elim
                      | _ =>
                        simp only [cutTk3]
                        cases hq : hN.beq m with
                        | false => trivial
                        | true => have := beq_of hq; simp [TkR]; omega
                    by_cases e1 : m = l
                    · refine ⟨.slice (some ⟨b, d, none⟩) (hN - l) (m - l), fun w => ?_, ?_⟩
                      · simp only [Instr.sliceAt, Instr.slice, Sem.run_bind, ok.run_und hu, hrun, ok.run_size hs, Result.andThen_ok, Sem.run_pure, if_pos e1]
                      · have e2 : hN - l = 0 := by omega
                        have e3 : m - l = 0 := by omega
                        have e4 : (rows.take hN).drop l = [] := by apply List.eq_nil_of_length_eq_zero; simp; omega
                        have htk' := htk (d + 0 * sz) (d + 0 * sz)
                        rw [e2, e3] at htk'
                        rw [e2, e3, e4]
                        exact .sl [] _ b d 0 sz cv h0 (fun r hr => by cases hr) (fun i r j a e => by simp at e) (fun i r j a e => by simp at e) (Nat.le_refl _) htk'
                    · refine ⟨.slice (some ⟨b, d + l * sz, none⟩) (hN - l) (m - l), fun w => ?_, ?_⟩
                      · simp [Instr.sliceAt, Instr.slice, ok.run_und hu, hrun, ok.run_size hs, e1, add_plain, hmul]
                      · exact RV.cut h0 hr hF hv hle (by omega) (by omega) (htk _ _)
      case hsl i o n c sz g =>
        cases hmx with
        | some a v hm => cases X.size e <;> simp at h
        | none =>
          cases hs : X.size e with
          | none => simp [hs] at h
          | some sE =>
            simp only [hs] at h
            cases hb : sE.beq sz with
            | false => simp [hb] at h
            | true =>
              have hE := beq_of hb
              subst hE
              simp only [hb, cond_true] at h
              cases hh : bnd hi n c with
              | none => simp [hh] at h
              | some hN =>
                simp only [hh] at h
                cases hl : bnd lo 0 hN with
                | none => simp [hl] at h
                | some l =>
                  simp only [hl, Option.some.injEq] at h
                  subst h
                  cases hx with
                  | hsl i o o' n c c' b z sz g hm hn hc hz ho =>
                    have hr := fun w => (run_bounds2' (P := P) (isS := true) (cap := c') hh hl hhi hlo hc hn w).1
                    obtain ⟨_, hle, hle2⟩ := run_bounds2' (P := P) (isS := true) (cap := c') hh hl hhi hlo hc hn default
                    refine ⟨.slice (if c' = l then some ⟨b, o', none⟩ else some ((⟨b, o', none⟩ : Addr).add (l * sE))) (hN - l) (c' - l), fun w => ?_, ?_⟩
                    · simp [Instr.sliceAt, Instr.slice, ok.run_und hu, hr, ok.run_size hs]
                    · have hzz : g = true → o + l * sE + (c' - l) * sE ≤ z := fun hg => by
                        have := hz hg
                        have hx1 : l * sE + (c' - l) * sE = c' * sE := by rw [← Nat.add_mul]; congr 1; omega
                        omega
                      by_cases e1 : c' = l
                      · rw [if_pos e1]
                        exact .hsl i _ o' _ _ _ b z sE g hm (by omega) (by omega) hzz (.inr (by omega))
                      · rw [if_neg e1, add_plain]
                        refine .hsl i _ _ _ _ _ b z sE g hm (by omega) (by omega) hzz (.inl ?_)
                        rw [ho.resolve_right (by omega)]

end
end Go.Aes
