import Derived.Test.YtgmifbbimcblcaaO10
set_option linter.all false
set_option linter.unusedVariables false
set_option linter.unusedSimpArgs false
namespace Go.Aes
open Go.RowKit

/-! ### letters -/
theorem get_bang (s : ByteArray) (i : Nat) : s.get! i = (s.data.toList[i]?).getD 0 := by
  show s.data[i]! = _
  by_cases h : i < s.data.size
  · rw [getElem!_pos s.data i h, List.getElem?_eq_getElem (by simpa using h)]
    simp
  · rw [getElem!_neg s.data i h, List.getElem?_eq_none (by simpa using h)]
    rfl

theorem decode_spec (s : ByteArray) (pos : Nat) (b : UInt8) (r : List UInt8) (h : s.data.toList.drop pos = b :: r) : Utf8.decode s pos = decodeL (b :: r) := by
  have hget : ∀ k, (s.get! (pos + k)) = ((b :: r)[k]?).getD 0 := by
    intro k
    rw [get_bang, ← h, List.getElem?_drop]
  have hlen : s.size = pos + (r.length + 1) := by
    have := congrArg List.length h
    simp at this
    have h2 : s.data.toList.length = s.size := by rw [Array.length_toList]; rfl
    simp at h2
    omega
  have hat : ∀ k, 0 < k → (s.get! (pos + k)).toNat = ((r[k - 1]?).getD 0).toNat := by
    intro k hk
    rw [hget]
    obtain ⟨k, rfl⟩ : ∃ m, k = m + 1 := ⟨k - 1, by omega⟩
    simp
  have h0 : s.get! (pos + 0) = b := by rw [hget]; rfl
  have hs : ∀ k, 0 < k → (pos + k < s.size) = (k - 1 < r.length) := fun k hk => propext (by omega)
  have hbeq : ∀ a c : Nat, a.beq c = (a == c) := fun a c => by rw [Bool.eq_iff_iff]; simp
  have hblt : ∀ a c : Nat, a.blt c = decide (a < c) := fun a c => by rw [Bool.eq_iff_iff]; simp [Nat.blt_eq]
  have hble : ∀ a c : Nat, a.ble c = decide (a ≤ c) := fun a c => by rw [Bool.eq_iff_iff]; simp
  unfold Utf8.decode decodeL
  simp only [h0, hs 1 (by omega), hs 2 (by omega), hs 3 (by omega), hat 1 (by omega), hat 2 (by omega), hat 3 (by omega)]
  simp only [Bool.cond_eq_ite, hblt, hble, hbeq, ge_iff_le, decide_eq_true_eq, Bool.and_eq_true, beq_iff_eq, and_assoc]

section
variable {X : Cx} {P : Program} {K : KC} {B : Nat} {W w : World} {H : AH}

theorem next_ok {i b z ty : Nat} {r : AV} {H' : AH} (h : nextAt i H = some (r, H')) (hm : K.μ i = some (b, z)) (hw : RW B W K H w) :
    ∃ v w', (Instr.next (.pointer (some ⟨b, 0, none⟩)) true ty).run P w = .ok v w' ∧ RV K r v ∧ RW B W K H' w' ∧ Fits K H K H' := by
  unfold nextAt at h
  cases hg : H.get i with
  | none => simp [hg] at h
  | some ob =>
    cases ob <;> (try simp only [hg] at h) <;> (try (cases h; done))
    rename_i rest pos
    cases hi : H.okI i with
    | false => simp [hi] at h
    | true =>
      simp only [hi, Bool.not_true, cond_false] at h
      obtain ⟨s, k1, k2⟩ := hw.obj i _ hg b z hm
      have hlt : b < w.heap.size := (Array.getElem?_eq_some_iff.1 k1).1
      have hgo : (getObj b).run P w = .ok (.stringIter s pos) w := run_getObj k1 (by intro c e f h; cases h)
      have hsz : s.data.toList.length = s.size := by rw [Array.length_toList]; rfl
      cases rest with
      | nil =>
        simp at h
        obtain ⟨rfl, rfl⟩ := h
        have hpos : ¬ pos < s.size := by
          have := congrArg List.length k2
          simp at this hsz
          omega
        refine ⟨.tuple #[.bool false], w, ?_, (RL.cons (.bool false) .nil).tup, hw, .refl K H⟩
        simp only [Instr.next, Sem.run_bind, hgo, Result.andThen_ok]
        rw [if_neg hpos]
        rfl
      | cons c cs =>
        simp only [Option.some.injEq, Prod.mk.injEq] at h
        obtain ⟨rfl, rfl⟩ := h
        have hpos : pos < s.size := by
          have := congrArg List.length k2
          simp at this hsz
          omega
        have hd := decode_spec s pos c cs k2
        have hset : ∀ o, (setObj b o).run P w = .ok () { w with heap := w.heap.setIfInBounds b o } := by
          intro o
          show Sem.run P (.setObj b o (.pure ())) w = _
          unfold Sem.run
          rw [k1]
          rfl
        have hFb : ∀ o, K.F b o = none := by
          intro o
          cases hf : K.F b o with
          | none => rfl
          | some v =>
            have := hw.fr b o v hf
            simp [World.cell?, k1] at this
        refine ⟨_, _, ?_, (RL.cons (.bool true) (.cons (.int .i64 pos) (.cons (.int .i32 (decodeL (c :: cs)).1) .nil))).tup, hw.write (i := i) (b := b) (o := .iter (c :: cs) pos)
          (o' := .iter ((c :: cs).drop (decodeL (c :: cs)).2) (pos + (decodeL (c :: cs)).2)) hg (own_of hg (by simp [plc, hm])) (.stringIter s (pos + (decodeL (c :: cs)).2))
          (fun j => AH.get_set H i j _ hi) (AH.nx_set _ _ _) (by simp) hFb ?_, ⟨.refl K, AH.le_set _ _ _, fun _ _ => ⟨rfl, rfl⟩⟩⟩
        · simp only [Instr.next, Sem.run_bind, hgo, Result.andThen_ok]
          rw [if_pos hpos, hd]
          simp only [Sem.run_bind, hset, Result.andThen_ok, Sem.run_pure, goInt]
        · intro b1 z1 hm1
          rw [hm] at hm1
          injection hm1 with hm1
          injection hm1 with e1 e2
          subst e1
          exact ⟨s, by show (w.heap.setIfInBounds b _)[b]? = _; rw [Array.getElem?_setIfInBounds_self_of_lt hlt], by rw [← k2, List.drop_drop]⟩

/-! ### rows that are read -/
theorem RW.rowsRead (hw : RW B W K H w) {n : Nat} {x : AV} {v : Value} {rows : List (List AV)} (h : readRows n x H = some rows) (hv : RV K x v) (hn : 0 < n) :
    (∀ r, r ∈ rows → r.length = n) ∧
    ((rows = [] ∧ ∃ ad c, v = .slice ad 0 c) ∨ (∃ b d c, v = .slice (some ⟨b, d, none⟩) rows.length c ∧ Reads K w b d rows.flatten) ∨
      (∃ s : List UInt8, n = 1 ∧ v = .string ⟨s.toArray⟩ ∧ rows = s.map fun c => [.int .u8 c.toNat])) := by
  unfold readRows at h
  cases x <;> (try simp only [] at h) <;> (try (cases h; done))
  case sl rs tk =>
    cases hb : rs.all (fun r => r.length.beq n) with
    | false => simp [hb] at h
    | true =>
      simp [hb] at h
      subst h
      have hlen : ∀ r, r ∈ rs → r.length = n := fun r hr => beq_of ((List.all_eq_true.1 hb) r hr)
      refine ⟨hlen, ?_⟩
      cases hv with
      | slNil => exact .inl ⟨rfl, none, 0, rfl⟩
      | slE p tk ht => exact .inl ⟨rfl, some p, 0, rfl⟩
      | sl rows tk b d c sz cv h0 hr hF hV hc ht =>
        refine .inr (.inl ⟨b, d, c, rfl, fun j a e => ?_⟩)
        have hfl := flatten_len hlen
        have hjlt : j < rs.length * n := by have := (List.getElem?_eq_some_iff.1 e).1; omega
        have hq : j / n < rs.length := by rw [Nat.div_lt_iff_lt_mul hn]; exact hjlt
        have hmod := Nat.mod_lt j hn
        have hjj : j = (j / n) * n + j % n := by rw [Nat.mul_comm]; exact (Nat.div_add_mod j n).symm
        have hro : rs[j / n]? = some rs[j / n] := List.getElem?_eq_getElem _
        have hrl := hlen _ (List.getElem_mem hq)
        have hcj : rs[j / n][j % n]? = some (rs[j / n][j % n]'(by omega)) := List.getElem?_eq_getElem _
        have := flatten_get hlen hro hcj
        rw [← hjj, e] at this
        injection this with this
        have hsz : sz = n := by rw [← hr _ (List.getElem_mem hq)]; exact hrl
        subst hsz
        refine ⟨cv (j / sz * sz + j % sz), ?_, by rw [this]; exact hV _ _ _ _ hro hcj⟩
        have := hw.fr _ _ _ (hF _ _ _ _ hro hcj)
        rw [Nat.add_assoc, ← hjj] at this
        rw [← hjj]
        exact this
  case hsl i o k c sz g =>
    cases hb : sz.beq n with
    | false => simp [hb] at h
    | true =>
      simp only [hb, cond_true] at h
      have hsz := beq_of hb
      subst hsz
      cases hg : H.get i with
      | none => simp [hg] at h
      | some ob =>
        cases ob <;> (try simp only [hg] at h) <;> (try (cases h; done))
        rename_i cs
        obtain ⟨r, hr, rfl⟩ := Option.map_eq_some_iff.1 h
        obtain ⟨hr1, hr2, hr3⟩ := slice?_spec hr
        have key : ∀ (k : Nat) (r : List AV), r.length = k * sz → (rowsOf sz k r).flatten = r ∧ (∀ x, x ∈ rowsOf sz k r → x.length = sz) ∧ (rowsOf sz k r).length = k := by
          intro k
          induction k with
          | zero =>
            intro r hr
            have : r = [] := by apply List.eq_nil_of_length_eq_zero; omega
            subst this
            exact ⟨rfl, fun x hx => by simp [rowsOf] at hx, rfl⟩
          | succ k ih =>
            intro r hr
            rw [Nat.add_mul] at hr
            obtain ⟨h1, h2, h3⟩ := ih (r.drop sz) (by simp; omega)
            refine ⟨by simp [rowsOf, h1], fun x hx => ?_, by simp [rowsOf, h3]⟩
            simp only [rowsOf, List.mem_cons] at hx
            rcases hx with rfl | hx
            · simp; omega
            · exact h2 x hx
        obtain ⟨f1, f2, f3⟩ := key k r hr2
        refine ⟨f2, ?_⟩
        cases hv with
        | hsl i o o' n c c' b z sz g hm hn' hc hz ho =>
          by_cases hk : k = 0
          · subst hk
            exact .inl ⟨rfl, _, _, rfl⟩
          · have ho' : o' = o := ho.resolve_right (by omega)
            subst ho'
            refine .inr (.inl ⟨b, o', c', by rw [f3], ?_⟩)
            rw [f1]
            have := (hw.reads hg hm).slice hr
            rw [Nat.zero_add] at this
            exact this
  case str s =>
    cases hb : n.beq 1 with
    | false => simp [hb] at h
    | true =>
      simp [hb] at h
      have hn1 := beq_of hb
      subst h
      refine ⟨fun r hr => ?_, .inr (.inr ⟨s, hn1, hv.str_inv, rfl⟩)⟩
      obtain ⟨c, _, rfl⟩ := List.mem_map.1 hr
      simp [hn1]

theorem bytesOf_spec : ∀ {rows : List (List AV)} {s : List UInt8}, bytesOf rows = some s → ∃ ns : List Int, rows = ns.map (fun n => [AV.int .u8 n]) ∧ s = ns.map fun n => UInt8.ofNat n.toNat
  | [], s, h => by simp [bytesOf] at h; subst h; exact ⟨[], rfl, rfl⟩
  | r :: rs, s, h => by
    unfold bytesOf at h
    split at h <;> (try (cases h; done))
    · rename_i e; cases e
    · rename_i n r' e
      injection e with e1 e2
      subst e1; subst e2
      obtain ⟨s', h', rfl⟩ := Option.map_eq_some_iff.1 h
      obtain ⟨ns, g1, g2⟩ := bytesOf_spec h'
      exact ⟨n :: ns, by rw [g1]; rfl, by rw [g2]; rfl⟩

theorem foldl_push (ns : List Int) : ∀ s : ByteArray, (ns.foldl (fun r n => r.push (UInt8.ofNat n.toNat)) s) = ⟨(s.data.toList ++ ns.map fun n => UInt8.ofNat n.toNat).toArray⟩ := by
  induction ns with
  | nil => intro s; simp
  | cons n ns ih =>
    intro s
    simp only [List.foldl_cons, ih]
    congr 1
    simp

theorem bstr_ok {x r : AV} {v : Value} (h : ((readRows 1 x H).bind fun rows => (bytesOf rows).map AV.str) = some r) (hv : RV K x v) (hsl : ∀ s, x ≠ .str s) (hw : RW B W K H w) :
    ∃ v', (Conv.bytesToString v).run P w = .ok v' w ∧ RV K r v' := by
  cases hr : readRows 1 x H with
  | none => simp [hr] at h
  | some rows =>
    simp only [hr, Option.bind_some] at h
    obtain ⟨s, hs, rfl⟩ := Option.map_eq_some_iff.1 h
    obtain ⟨ns, g1, g2⟩ := bytesOf_spec hs
    obtain ⟨h1, h2⟩ := hw.rowsRead hr hv (by omega)
    rcases h2 with ⟨rfl, ad, c, rfl⟩ | ⟨b, d, c, rfl, hrd⟩ | ⟨s', _, rfl, _⟩
    · have hns : ns = [] := by
        cases ns with
        | nil => rfl
        | cons n ns => simp at g1
      subst hns
      subst g2
      cases ad with
      | none => exact ⟨.string .empty, rfl, .str []⟩
      | some ad =>
        refine ⟨_, run_bytesToString (P := P) w ad 0 c [] (by simp [loadCells, loadCellsFrom]), ?_⟩
        exact .str []
    · have hfl : rows.flatten = ns.map (AV.int .u8) := by
        rw [g1]
        clear g1 g2 hs hr hv h1 hrd h
        induction ns with
        | nil => rfl
        | cons n ns ih => simp [ih]
      rw [hfl] at hrd
      obtain ⟨vs, k1, k2⟩ := run_loadCells' (P := P) hrd
      have hvs : vs = ns.map (Value.int .u8) := by
        apply List.ext_getElem?
        intro j
        by_cases hj : j < ns.length
        · have hvj : j < vs.length := by rw [k1.len]; simpa using hj
          have := k1.at_ j (.int .u8 ns[j]) vs[j] (by simp [hj]) (List.getElem?_eq_getElem hvj)
          have := this.int_inv
          rw [List.getElem?_eq_getElem hvj, this]
          simp [hj]
        · rw [List.getElem?_eq_none (by rw [k1.len]; simpa using hj), List.getElem?_eq_none (by simpa using hj)]
      have hlen : rows.length = (ns.map (AV.int .u8)).length := by rw [g1]; simp
      rw [hvs, ← hlen] at k2
      refine ⟨_, run_bytesToString (P := P) w ⟨b, d, none⟩ rows.length c ns k2, ?_⟩
      rw [foldl_push, g2]
      exact .str _
    · cases x <;> first | exact absurd rfl (hsl _) | cases hv

end
end Go.Aes
