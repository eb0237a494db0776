import Derived.Test.YtgmifbbimcblcaaO6
set_option linter.all false
set_option linter.unusedVariables false
set_option linter.unusedSimpArgs false
namespace Go.Aes
open Go.RowKit

section
variable {X : Cx} {P : Program} {K : KC}

theorem allOne_flatten {rows : List (List AV)} : True := trivial

theorem run_newRow (e : Nat) (cells : Array Value) (w : World) : (newRow e cells).run P w = .ok ⟨w.heap.size, 0, none⟩ (w.alloc (.cells cells e)) := by
  simp [newRow]

theorem run_getObj {w : World} {r : Nat} {o : Obj} (h : w.heap[r]? = some o) (hn : ∀ c e f, o ≠ .cells c e f) : (getObj r).run P w = .ok o w := by
  unfold getObj Sem.run
  rw [h]
  cases o <;> first | rfl | exact absurd rfl (hn _ _ _)

theorem zero_row (ok : CxOk X P) {e n len : Nat} {z : List AV} (hz : X.zero e = some z) (hs : X.size e = some n) (hl : z.length = n) (hn : 0 < n) (K : KC) :
    ∃ zc : Array Value, (∀ w, ((if len * n = 0 then pure #[] else do pure (← zeroValue e).cells) : Sem (Array Value)).run P w = .ok (if len * n = 0 then #[] else zc) w) ∧
      RL K (List.replicate len z).flatten ((Array.range (len * n)).map ((if len * n = 0 then (#[] : Array Value) else zc)[· % (if len * n = 0 then (#[] : Array Value) else zc).size]!)).toList := by
  obtain ⟨v, a, ho, hc, hr, _⟩ := ok.run_zero hz
  have hv : RL K z v.cells.toList := by rw [← hc]; exact (ofV_spec ho).cells
  have hsz : v.cells.size = n := by have := hv.len; simp at this; omega
  refine ⟨v.cells, fun w => ?_, ?_⟩
  · by_cases e1 : len * n = 0
    · simp [e1]
    · simp only [if_neg e1, Sem.run_bind, hr]
      rfl
  · by_cases e1 : len * n = 0
    · have : len = 0 := by rcases Nat.mul_eq_zero.1 e1 with h | h <;> omega
      subst this
      simp
      exact .nil
    · rw [if_neg e1]
      have := zero_cells (zero := v.cells) (n := len) (by omega)
      rw [hsz] at this
      rw [hsz, this]
      exact replicate_flatten z _ hv len

theorem buildSlice_ok (ok : CxOk X P) {t len : Nat} {parts : List (Nat × AV)} {hm : Bool} {i : In} {parts' : Array (Nat × Value)} (h : buildSlice X t len parts hm = some i)
    (h1 : parts'.toList.map (·.1) = parts.map (·.1)) (h2 : RL K (parts.map (·.2)) (parts'.toList.map (·.2))) : InSim X P K (do pure (.value (← Instr.buildSlice t len parts')) : Sem Next) i := by
  unfold buildSlice at h
  cases hu : X.und t with
  | none => simp [hu] at h
  | some d =>
    simp only [hu] at h
    cases d <;> (try simp only [] at h) <;> try (cases h; done)
    case slice e =>
      cases hz : X.zero e with
      | none => simp [hz] at h
      | some z =>
        cases hs : X.size e with
        | none => simp [hz, hs] at h
        | some n =>
          simp only [hz, hs] at h
          cases hb : ((len * n).ble 16777216 && z.length.beq n && !n.beq 0 && allOne z) with
          | false => simp [hb] at h
          | true =>
            simp only [hb, cond_true] at h
            simp only [Bool.and_eq_true, Bool.not_eq_true'] at hb
            obtain ⟨⟨⟨hb1, hb2⟩, hb3⟩, hb4⟩ := hb
            have hle := ble_of hb1
            have hzl := beq_of hb2
            have hn0 : 0 < n := Nat.pos_of_ne_zero (bne_of hb3)
            cases hp : putRow z (List.replicate len z) parts with
            | none => simp [hp] at h
            | some rows =>
              simp only [hp, Option.some.injEq] at h
              obtain ⟨zc, hzr, hzl2⟩ := zero_row (len := len) ok hz hs hzl hn0 K
              obtain ⟨arr', g1, g2, g3, g4⟩ := fill_rows hzl parts parts'.toList (List.replicate len z) rows _ hp h1 h2 (fun r hr => by rw [List.eq_of_mem_replicate hr]; exact hzl) hzl2
              rw [List.length_replicate] at g4
              have hrun : ∀ w, (do pure (.value (← Instr.buildSlice t len parts')) : Sem Next).run P w = .ok (.value (.slice (some ⟨w.heap.size, 0, none⟩) len len)) (w.alloc (.cells arr' e)) := by
                intro w
                simp only [Instr.buildSlice, Sem.run_bind, ok.run_und hu, Result.andThen_ok, ok.run_size hs]
                rw [if_neg (by omega : ¬ len * n > 2 ^ 24)]
                by_cases e1 : len * n = 0
                · simp only [if_pos e1] at g1 ⊢
                  simp only [Sem.run_bind, Sem.run_pure, Result.andThen_ok, g1, run_newRow]
                · have hzr' := fun w => hzr w
                  simp only [if_neg e1] at g1 hzr' ⊢
                  have hz2 : ∀ w, ∃ zv, (zeroValue e).run P w = .ok zv w ∧ zv.cells = zc := by
                    intro w
                    have := hzr' w
                    rw [Sem.run_bind] at this
                    cases hq : (zeroValue e).run P w with
                    | ok zv w' => rw [hq] at this; simp at this; exact ⟨zv, by rw [this.2], this.1⟩
                    | halt x w' => rw [hq] at this; simp at this
                  obtain ⟨zv, hq1, hq2⟩ := hz2 w
                  simp only [Sem.run_bind, hq1, Sem.run_pure, Result.andThen_ok, hq2, g1, run_newRow]
              have hvl := g2.len
              rw [flatten_len g3, g4] at hvl
              simp at hvl
              cases hm with
              | false =>
                simp at h
                subst h
                refine ⟨arr'.toList, e, hn0, g3, g2, fun w => ?_⟩
                rw [hrun, g4]
              | true =>
                simp at h
                subst h
                refine ⟨arr'.toList, e, g2, fun w => ⟨_, by rw [hrun], fun K' j hj => ?_⟩⟩
                exact .hsl j 0 0 len len len w.heap.size arr'.toList.length n true hj (Nat.le_refl _) (Nat.le_refl _) (fun _ => by simp; omega) (.inl rfl)

theorem callB_ok (ok : CxOk X P) {b : Builtin} {ts : Array Nat} {ty : Nat} {consts : Array Bool} {as : List AV} {vs : Array Value} {hm : Bool} {i : In} (h : callB X hm b ts.toList as = some i) (hv : RL K as vs.toList) :
    InSim X P K (Go.builtin b ts ty consts vs) i := by
  have inv1 : ∀ x, as = [x] → ∃ v, vs = #[v] ∧ RV K x v := by
    intro x e
    subst e
    obtain ⟨v, vs', h1, h2, h3⟩ := hv.cons_inv
    have := h3.nil_inv
    subst this
    exact ⟨v, by apply Array.ext'; simpa using h1, h2⟩
  unfold callB at h
  split at h
  · -- len
    rename_i t x e1
    obtain ⟨v, rfl, hx⟩ := inv1 x rfl
    have et : ts = #[t] := by apply Array.ext'; simpa using e1
    subst et
    have fin : ∀ n : Int, (∀ w, (Builtin.len_ #[t] ty #[v]).run P w = .ok (.int .i64 n) w) → InSim X P K (Go.builtin .len #[t] ty consts #[v]) (.val (.int .i64 n)) := fun n hn =>
      insim_val (s := Builtin.len_ #[t] ty #[v]) ⟨_, hn, .int _ _⟩
    split at h <;> (try (cases h; done)) <;> injection h with h <;> subst h
    · rename_i d y hu
      have := hx.str_inv
      subst this
      have hsz : (⟨y.toArray⟩ : ByteArray).size = y.length := by simp [ByteArray.size]
      exact fin _ fun w => by simp [Builtin.len_, ok.run_und hu, goInt, hsz]
    · rename_i n e hu
      exact fin _ fun w => by simp [Builtin.len_, ok.run_und hu, goInt]
    · rename_i e rows tk hu
      cases hx with
      | slNil => exact fin _ fun w => by simp [Builtin.len_, ok.run_und hu, goInt]
      | slE p tk ht => exact fin _ fun w => by simp [Builtin.len_, ok.run_und hu, goInt]
      | sl => exact fin _ fun w => by simp [Builtin.len_, ok.run_und hu, goInt]
    · rename_i e a1 a2 n a4 a5 a6 hu
      cases hx
      exact fin _ fun w => by simp [Builtin.len_, ok.run_und hu, goInt]
    · rename_i a b hu
      cases hx
      exact fin _ fun w => by simp [Builtin.len_, ok.run_und hu, goInt]
    · rename_i a b r hu
      cases hx with
      | map i b' z hmu =>
        refine ⟨b', z, hmu, fun w ents clock hw => ?_⟩
        have hg : (getObj b').run P w = .ok (.map ents clock) w := run_getObj hw (by intro c e f h; cases h)
        have h1 : (Builtin.len_ #[t] ty #[.map (some b')]).run P w = .ok (.int .i64 ents.size) w := by
          simp [Builtin.len_, ok.run_und hu, goInt, hg]
        show ((do pure (.value (← Builtin.len_ #[t] ty #[.map (some b')]))) : Sem Next).run P w = _
        rw [Sem.run_bind, h1]
        rfl
  · -- append
    rename_i st xt s x e1
    have et : ts = #[st, xt] := by apply Array.ext'; simpa using e1
    subst et
    obtain ⟨v1, vs1, h1, hs1, h3⟩ := hv.cons_inv
    obtain ⟨v2, vs2, rfl, hs2, h4⟩ := h3.cons_inv
    have := h4.nil_inv
    subst this
    have ev : vs = #[v1, v2] := by apply Array.ext'; simpa using h1
    subst ev
    split at h
    · rename_i e d hu hu2
      split at h
      · cases h
      · rename_i hne
        split at h
        · rename_i n b z hn hbb hzz
          cases hzl : z.length.beq n with
          | false => simp [hzl] at h
          | true =>
          simp [hzl] at h
          subst h
          exact ⟨st, xt, ty, e, d, v1, v2, z, hu, hn, hbb, hzz, beq_of hzl, hu2, fun k hk => hne k hk, hs1, hs2, fun w => by
            show ((do pure (.value (← Builtin.append_ #[st, xt] ty #[v1, v2]))) : Sem Next).run P w = _
            rw [Sem.run_bind]
            rfl⟩
        · cases h
    · cases h
  · rename_i x r
    obtain ⟨r', h1, rfl⟩ := pv_some h
    obtain ⟨v, vs', e1, h2, h3⟩ := hv.cons_inv
    have := foldO_ok (P := P) (K := K) (fun h ha hb => min2_ok h ha hb) r vs' x r' v h1 h2 h3
    refine insim_val (s := Builtin.min_ ts ty vs) ?_
    unfold Builtin.min_
    rw [e1]
    exact this
  · rename_i x r
    obtain ⟨r', h1, rfl⟩ := pv_some h
    obtain ⟨v, vs', e1, h2, h3⟩ := hv.cons_inv
    have := foldO_ok (P := P) (K := K) (fun h ha hb => max2_ok h ha hb) r vs' x r' v h1 h2 h3
    refine insim_val (s := Builtin.max_ ts ty vs) ?_
    unfold Builtin.max_
    rw [e1]
    exact this
  · cases h

end
end Go.Aes
