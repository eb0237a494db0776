import Derived.Test.YtgmifbbimcblcaaO9
set_option linter.all false
set_option linter.unusedVariables false
set_option linter.unusedSimpArgs false
namespace Go.Aes
open Go.RowKit

section
variable {X : Cx} {P : Program} {K : KC} {B : Nat} {W w : World} {H : AH}

theorem bytes_beq (a b : List UInt8) : ((⟨a.toArray⟩ : ByteArray) == ⟨b.toArray⟩) = (a == b) := by
  show (a.toArray == b.toArray) = (a == b)
  simp

theorem keyEq_spec {kd : TypeDesc} {k k' : AV} {vk vk' : Value} {b : Bool} (ht : keyTy kd k = true) (h : keyEq k k' = some b) (hk : RV K k vk) (hk' : RV K k' vk') :
    Instr.sameNow kd vk vk' = some b ∧ (b = true → vk = vk') := by
  unfold keyEq at h
  split at h
  · have e1 := hk.str_inv; have e2 := hk'.str_inv
    subst e1; subst e2
    injection h with h
    subst h
    cases kd <;> simp [keyTy] at ht
    refine ⟨?_, fun hb => ?_⟩
    · simp only [Instr.sameNow, bytes_beq, eqL_spec]
    · rw [eqL_spec] at hb
      have := by simpa using hb
      rw [this]
  · have e1 := hk.int_inv; have e2 := hk'.int_inv
    subst e1; subst e2
    rename_i j a j' c
    cases hd : decide (j = j') with
    | false => simp [hd] at h
    | true =>
      have hj : j = j' := by simpa using hd
      simp [hd] at h
      cases kd <;> simp [keyTy] at ht
      subst hj
      refine ⟨by simp [Instr.sameNow, h], fun hb => ?_⟩
      subst h
      have : a = c := by simpa using hb
      rw [this]
  · cases h

/-- entries, as a list -/
structure EL (K : KC) (es : List (AV × AV)) (l : List MapEntry) : Prop where
  len : l.length = es.length
  at_ : ∀ (j : Nat) (x : AV × AV) (e : MapEntry), es[j]? = some x → l[j]? = some e → RV K x.1 e.key ∧ RV K x.2 e.val

theorem EL.of {es : List (AV × AV)} {ents : Array MapEntry} (h : EntOk K es ents) : EL K es ents.toList :=
  ⟨by simpa using h.len, fun j x e e1 e2 => h.at_ j x e e1 (by simpa using e2)⟩

theorem EL.tail {x : AV × AV} {es : List (AV × AV)} {e : MapEntry} {l : List MapEntry} (h : EL K (x :: es) (e :: l)) : EL K es l :=
  ⟨by have := h.len; simpa using this, fun j y f e1 e2 => h.at_ (j + 1) y f (by simpa using e1) (by simpa using e2)⟩

theorem look_spec {kd : TypeDesc} {k : AV} {vk : Value} (ht : keyTy kd k = true) (hk : RV K k vk) : ∀ (es : List (AV × AV)) (l : List MapEntry) (i : Nat) (r : Option AV), EL K es l → look k es = some r →
    (match r with
      | none => Instr.findNow kd vk l i = some none
      | some v => ∃ j vv, Instr.findNow kd vk l i = some (some (j, vv)) ∧ RV K v vv)
  | [], l, i, r, hl, h => by
    have : l = [] := by have := hl.len; simpa using this
    subst this
    simp [look] at h
    subst h
    rfl
  | (k', v') :: es, l, i, r, hl, h => by
    cases l with
    | nil => have := hl.len; simp at this
    | cons e l =>
      have h0 := hl.at_ 0 (k', v') e (by simp) (by simp)
      simp only [look] at h
      cases hq : keyEq k k' with
      | none => simp [hq] at h
      | some b =>
        obtain ⟨s1, s2⟩ := keyEq_spec ht hq hk h0.1
        cases b with
        | true =>
          simp only [hq, Option.some.injEq] at h
          subst h
          exact ⟨i, e.val, by simp only [Instr.findNow, s1], h0.2⟩
        | false =>
          simp only [hq] at h
          have ih := look_spec ht hk es l (i + 1) r hl.tail h
          simp only [Instr.findNow, s1]
          exact ih

theorem upd_spec {kd : TypeDesc} {k v : AV} {vk : Value} (ht : keyTy kd k = true) (hk : RV K k vk) : ∀ (es es' : List (AV × AV)) (l : List MapEntry) (i : Nat), EL K es l → upd k v es = some es' →
    (Instr.findNow kd vk l i = some none ∧ es' = es ++ [(k, v)]) ∨
    (∃ j vv, Instr.findNow kd vk l i = some (some (i + j, vv)) ∧ es' = es.set j (k, v) ∧ j < es.length ∧ ∀ e, l[j]? = some e → e.key = vk)
  | [], es', l, i, hl, h => by
    have : l = [] := by have := hl.len; simpa using this
    subst this
    simp [upd] at h
    subst h
    exact .inl ⟨rfl, rfl⟩
  | (k', v') :: es, es', l, i, hl, h => by
    cases l with
    | nil => have := hl.len; simp at this
    | cons e l =>
      have h0 := hl.at_ 0 (k', v') e (by simp) (by simp)
      simp only [upd] at h
      cases hq : keyEq k k' with
      | none => simp [hq] at h
      | some b =>
        obtain ⟨s1, s2⟩ := keyEq_spec ht hq hk h0.1
        cases b with
        | true =>
          simp only [hq, Option.some.injEq] at h
          subst h
          refine .inr ⟨0, e.val, by simp only [Instr.findNow, s1]; rfl, rfl, by simp, fun e' he' => ?_⟩
          simp at he'
          subst he'
          exact (s2 rfl).symm
        | false =>
          simp only [hq] at h
          obtain ⟨es2, h2, rfl⟩ := Option.map_eq_some_iff.1 h
          rcases upd_spec ht hk es es2 l (i + 1) hl.tail h2 with ⟨g1, g2⟩ | ⟨j, vv, g1, g2, g3, g4⟩
          · exact .inl ⟨by simp only [Instr.findNow, s1]; exact g1, by rw [g2]; rfl⟩
          · refine .inr ⟨j + 1, vv, by simp only [Instr.findNow, s1]; rw [g1]; congr 3; omega, by rw [g2]; rfl, by simp; omega, fun e' he' => g4 e' (by simpa using he')⟩

theorem run_checkKey (ok : CxOk X P) {kt : Nat} {kd : TypeDesc} {k : AV} {vk : Value} {em : Bool} (hu : X.und kt = some kd) (ht : keyTy kd k = true) (hk : RV K k vk) (w : World) :
    (Instr.checkKey em 10000 kt vk).run P w = .ok () w := by
  suffices h : ∀ D, (Instr.checkKey em (D + 1) kt vk).run P w = .ok () w from h 9999
  intro D
  cases k <;> (try (cases kd <;> simp [keyTy] at ht; done))
  · cases kd <;> simp [keyTy] at ht
    have := hk.int_inv
    subst this
    simp only [Instr.checkKey, Sem.run_bind, ok.run_und hu, Result.andThen_ok, Sem.run_pure]
  · cases kd <;> simp [keyTy] at ht
    have := hk.str_inv
    subst this
    simp only [Instr.checkKey, Sem.run_bind, ok.run_und hu, Result.andThen_ok, Sem.run_pure]

theorem run_findKey (ok : CxOk X P) {kt : Nat} {kd : TypeDesc} {vk : Value} {l : List MapEntry} {r : Option (Nat × Value)} (hu : X.und kt = some kd) (h : Instr.findNow kd vk l 0 = some r) (w : World) :
    (Instr.findKey kt vk l).run P w = .ok r w := by
  simp only [Instr.findKey, Sem.run_bind, ok.run_und hu, Result.andThen_ok, h, Sem.run_pure]

theorem unZ_ok (ok : CxOk X P) {t : Nat} {z : AV} (h : unZ X t = some z) (K : KC) : ∃ v, (∀ w, (zeroValue t).run P w = .ok v w) ∧ RV K z v := by
  unfold unZ at h
  cases ha : X.isAgg t with
  | none => simp [ha] at h
  | some ag =>
    cases hz : X.zero t with
    | none => cases ag <;> simp [ha, hz] at h
    | some zs =>
      obtain ⟨v, a, ho, hc, hr, h1, h2, h3⟩ := ok.run_zero hz
      refine ⟨v, hr, ?_⟩
      have hv : RV K a v := ofV_spec ho
      cases ag with
      | true =>
        simp [ha, hz] at h
        obtain ⟨cs, rfl⟩ := h1 ha
        simp [AV.cells] at hc
        subst hc
        subst h
        exact hv
      | false =>
        have ho' := h2 ha
        have hcell : a.cells = [a] := by cases a <;> first | rfl | simp [one] at ho'
        rw [hcell] at hc
        subst hc
        simp [ha, hz] at h
        subst h
        exact hv

theorem lookup_ok (ok : CxOk X P) {t : Nat} {m k r : AV} {c : Bool} {vm vk : Value} (h : lookup X t m k c H = some r) (hm : RV K m vm) (hk : RV K k vk) (hw : RW B W K H w) :
    ∃ v, (Instr.lookup t vm vk c).run P w = .ok v w ∧ RV K r v := by
  unfold lookup at h
  cases hu : X.und t with
  | none => simp [hu] at h
  | some d =>
    cases d <;> (try simp only [hu] at h) <;> (try (cases h; done))
    rename_i kt e
    cases hk2 : X.und kt with
    | none => simp [hk2] at h
    | some kd =>
      simp only [hk2] at h
      cases ht : keyTy kd k with
      | false => simp [ht] at h
      | true =>
        simp only [ht, Bool.not_true, cond_false] at h
        have miss : ∀ {z : AV} {zv : Value} {r : AV}, (bif c then AV.tup [z, .bool false] else z) = r → RV K z zv → RV K r (if c then .tuple #[zv, .bool false] else zv) := by
          intro z zv r h hz
          subst h
          cases c
          · exact hz
          · exact (RL.cons hz (.cons (.bool false) .nil)).tup
        have hit : ∀ {z : AV} {zv : Value} {r : AV}, (bif c then AV.tup [z, .bool true] else z) = r → RV K z zv → RV K r (if c then .tuple #[zv, .bool true] else zv) := by
          intro z zv r h hz
          subst h
          cases c
          · exact hz
          · exact (RL.cons hz (.cons (.bool true) .nil)).tup
        cases m <;> (try simp only [] at h) <;> (try (cases h; done))
        rename_i mr
        cases mr with
        | none =>
          simp only [] at h
          obtain ⟨z, hz, rfl⟩ := Option.map_eq_some_iff.1 h
          obtain ⟨zv, hz1, hz2⟩ := unZ_ok ok hz K
          cases hm
          refine ⟨_, ?_, miss rfl hz2⟩
          simp only [Instr.lookup, Sem.run_bind, ok.run_und hu, Result.andThen_ok, Sem.run_pure, run_checkKey ok hk2 ht hk]
          rw [show (Instr.findKey kt vk ([] : List MapEntry)) = Instr.findKey kt vk [] from rfl]
          simp only [Sem.run_bind, run_findKey ok hk2 (rfl : Instr.findNow kd vk [] 0 = some none), Result.andThen_ok, hz1, Sem.run_pure]
        | some r0 =>
          simp only [] at h
          cases hg : H.get r0 with
          | none => simp [hg] at h
          | some ob =>
            cases ob <;> (try simp only [hg] at h) <;> (try (cases h; done))
            rename_i es
            cases hm with
            | map i b z hmu =>
              obtain ⟨ents, clock, k1, k2⟩ := hw.obj r0 _ hg b z hmu
              have hgo : ∀ w', w' = w → (getObj b).run P w' = .ok (.map ents clock) w' := fun w' e => by subst e; exact run_getObj k1 (by intro c e f h; cases h)
              cases hl : look k es with
              | none => simp [hl] at h
              | some q =>
                have hsp := look_spec ht hk es ents.toList 0 q (EL.of k2) hl
                cases q with
                | none =>
                  simp only [hl] at h
                  obtain ⟨z, hz, rfl⟩ := Option.map_eq_some_iff.1 h
                  obtain ⟨zv, hz1, hz2⟩ := unZ_ok ok hz K
                  refine ⟨_, ?_, miss rfl hz2⟩
                  simp only [Instr.lookup, Sem.run_bind, ok.run_und hu, Result.andThen_ok, Sem.run_pure, hgo w rfl, run_checkKey ok hk2 ht hk, run_findKey ok hk2 hsp, hz1]
                | some v =>
                  simp only [hl, Option.some.injEq] at h
                  obtain ⟨j, vv, hf, hv⟩ := hsp
                  refine ⟨_, ?_, hit h hv⟩
                  simp only [Instr.lookup, Sem.run_bind, ok.run_und hu, Result.andThen_ok, Sem.run_pure, hgo w rfl, run_checkKey ok hk2 ht hk, run_findKey ok hk2 hf]

theorem mapSet_ok (ok : CxOk X P) {t : Nat} {m k x : AV} {vm vk vx : Value} {H' : AH} (h : mapSet X t m k x H = some H') (hm : RV K m vm) (hk : RV K k vk) (hx : RV K x vx) (hw : RW B W K H w) :
    ∃ w', (Instr.mapUpdate t vm vk vx).run P w = .ok () w' ∧ RW B W K H' w' ∧ Fits K H K H' := by
  unfold mapSet at h
  cases hu : X.und t with
  | none => simp [hu] at h
  | some d =>
    cases d <;> (try simp only [hu] at h) <;> (try (cases h; done))
    rename_i kt e
    cases hk2 : X.und kt with
    | none => simp [hk2] at h
    | some kd =>
      simp only [hk2] at h
      cases ht : keyTy kd k with
      | false => simp [ht] at h
      | true =>
        simp only [ht, Bool.not_true, cond_false] at h
        cases m <;> (try simp only [] at h) <;> (try (cases h; done))
        rename_i mr
        cases mr with
        | none => simp at h
        | some r0 =>
          simp only [] at h
          cases hi : H.okI r0 with
          | false => simp [hi] at h
          | true =>
          simp only [hi, Bool.not_true, cond_false] at h
          cases hg : H.get r0 with
          | none => simp [hg] at h
          | some ob =>
            cases ob <;> (try simp only [hg] at h) <;> (try (cases h; done))
            rename_i es
            obtain ⟨es', hup, rfl⟩ := Option.map_eq_some_iff.1 h
            cases hm with
            | map i b z hmu =>
              obtain ⟨ents, clock, k1, k2⟩ := hw.obj r0 _ hg b z hmu
              have hlt : b < w.heap.size := (Array.getElem?_eq_some_iff.1 k1).1
              have hgo : (getObj b).run P w = .ok (.map ents clock) w := run_getObj k1 (by intro c e f h; cases h)
              have hset : ∀ o, (setObj b o).run P w = .ok () { w with heap := w.heap.setIfInBounds b o } := by
                intro o
                show Sem.run P (.setObj b o (.pure ())) w = _
                unfold Sem.run
                rw [k1]
                rfl
              have fin : ∀ (ents' : Array MapEntry) (clock' : Nat), EntOk K es' ents' → RW B W K (H.set r0 (some (.map es'))) { w with heap := w.heap.setIfInBounds b (.map ents' clock') } := by
                intro ents' clock' he
                have hFb : ∀ o, K.F b o = none := by
                  intro o
                  cases hf : K.F b o with
                  | none => rfl
                  | some v =>
                    have := hw.fr b o v hf
                    simp [World.cell?, k1] at this
                refine hw.write (i := r0) (b := b) (o := .map es) (o' := .map es') hg (own_of hg (by simp [plc, hmu])) (.map ents' clock') (fun j => AH.get_set H r0 j _ hi) (AH.nx_set _ _ _) (by simp) hFb ?_
                intro b1 z1 hm1
                rw [hmu] at hm1
                injection hm1 with hm1
                injection hm1 with e1 e2
                subst e1
                exact ⟨ents', clock', by show (w.heap.setIfInBounds b _)[b]? = _; rw [Array.getElem?_setIfInBounds_self_of_lt hlt], he⟩
              have hlen := k2.len
              rcases upd_spec ht hk es es' ents.toList 0 (EL.of k2) hup with ⟨g1, g2⟩ | ⟨j, vv, g1, g2, g3, g4⟩
              · refine ⟨_, ?_, fin (ents.push { key := vk, val := vx, born := clock }) (clock + 1) ?_, ⟨.refl K, AH.le_set _ _ _, fun _ _ => ⟨rfl, rfl⟩⟩⟩
                · simp only [Instr.mapUpdate, Sem.run_bind, ok.run_und hu, Result.andThen_ok, hgo, run_checkKey ok hk2 ht hk, run_findKey ok hk2 g1, hset]
                · subst g2
                  refine ⟨by simp [hlen], fun j y e e1 e2 => ?_⟩
                  rw [List.getElem?_append] at e1
                  rw [Array.getElem?_push] at e2
                  rw [hlen] at e2
                  by_cases hj : j < es.length
                  · rw [if_pos hj] at e1
                    rw [if_neg (by omega)] at e2
                    exact k2.at_ j y e e1 e2
                  · rw [if_neg hj] at e1
                    have hj2 : j = es.length := by
                      rcases Nat.lt_or_ge es.length j with h' | h'
                      · rw [if_neg (by omega), Array.getElem?_eq_none (by omega)] at e2; cases e2
                      · omega
                    subst hj2
                    rw [if_pos rfl] at e2
                    simp at e1
                    injection e2 with e2
                    subst e1; subst e2
                    exact ⟨hk, hx⟩
              · have hjl : j < ents.size := by omega
                have hkey : (((ents[j]?).map (·.key)).getD vk) = vk := by
                  rw [Array.getElem?_eq_getElem hjl]
                  have := g4 ents[j] (by simp [hjl])
                  simpa using this
                have hstay : ∀ w', (Instr.keyThatStays vk vk).run P w' = .ok vk w' := by
                  intro w'
                  have hsb : Instr.sameBits 10000 vk vk = true := by
                    cases k <;> (try (cases kd <;> simp [keyTy] at ht; done))
                    · have := hk.int_inv; subst this; simp [Instr.sameBits]
                    · have := hk.str_inv; subst this; simp only [Instr.sameBits, bytes_beq]; simp
                  unfold Instr.keyThatStays
                  rw [hsb]
                  rfl
                refine ⟨_, ?_, fin (ents.modify j fun e => { e with key := vk, val := vx }) clock ?_, ⟨.refl K, AH.le_set _ _ _, fun _ _ => ⟨rfl, rfl⟩⟩⟩
                · rw [Nat.zero_add] at g1
                  simp only [Instr.mapUpdate, Sem.run_bind, ok.run_und hu, Result.andThen_ok, hgo, run_checkKey ok hk2 ht hk, run_findKey ok hk2 g1, hkey, hstay, hset]
                · subst g2
                  refine ⟨by simp [hlen], fun q y e e1 e2 => ?_⟩
                  rw [Array.getElem?_modify] at e2
                  by_cases hq : j = q
                  · subst hq
                    rw [List.getElem?_set_self g3] at e1
                    rw [if_pos rfl, Array.getElem?_eq_getElem hjl] at e2
                    simp at e1 e2
                    subst e1; subst e2
                    exact ⟨hk, hx⟩
                  · rw [List.getElem?_set_ne hq] at e1
                    rw [if_neg hq] at e2
                    exact k2.at_ q y e e1 e2

end
end Go.Aes
