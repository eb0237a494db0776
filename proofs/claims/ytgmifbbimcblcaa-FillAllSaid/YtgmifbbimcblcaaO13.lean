import Derived.Test.YtgmifbbimcblcaaO12
set_option linter.all false
set_option linter.unusedVariables false
set_option linter.unusedSimpArgs false
namespace Go.Aes
open Go.RowKit

section
variable {X : Cx} {P : Program} {K : KC} {B : Nat} {W w : World} {H H' : AH}

/-- what append does where there is room -/
theorem run_append_in (ok : CxOk X P) {st xt ty e n L m cap : Nat} {d : TypeDesc} {base : Option Addr} {vx : Value} {new : List Value}
    (hu : X.und st = some (.slice e)) (hs : X.size e = some n) (hx : X.und xt = some d) (hd : ∀ k, d ≠ .int k)
    (hlen : ∀ w', (Builtin.lenOf vx).run P w' = .ok m w') (hnew : (Builtin.firstCells n m vx).run P w = .ok new.toArray w) (hroom : L + m ≤ cap) {w' : World}
    (hst : ∀ a, base = some a → (storeCells (a.add (L * n)) new).run P w = .ok () w') (hnone : base = none → w' = w) :
    (Builtin.append_ #[st, xt] ty #[.slice base L cap, vx]).run P w = .ok (.slice base (L + m) cap) w' := by
  have hmt : (match d with | TypeDesc.int k => true | _ => false) = false := by cases d <;> first | rfl | exact absurd rfl (hd _)
  simp only [Builtin.append_, List.getElem?_toArray, List.getElem?_cons_zero, List.getElem?_cons_succ, Sem.run_bind, ok.run_und hu, Result.andThen_ok, ok.run_size hs, ok.run_und hx, Sem.run_pure, hmt, Bool.false_eq_true, if_false, hlen,
      Bool.not_false, if_true]
  rw [if_pos hroom]
  simp only [Sem.run_bind, hnew, Result.andThen_ok]
  cases base with
  | none => rw [hnone rfl]; rfl
  | some a => simp only [Sem.run_bind, hst a rfl, Result.andThen_ok]; rfl

/-- new rows behind old ones, the old ones elsewhere known, the new ones just put -/
theorem RV.grow {K' : KC} (le : K.le K') {rows new : List (List AV)} {tk tk' : Tk} {b d c n : Nat} {vs : List Value} (hn : 0 < n) (hr : ∀ r, r ∈ rows → r.length = n) (hr' : ∀ r, r ∈ new → r.length = n)
    (hold : ∀ (i : Nat) (r : List AV) (j : Nat) (a : AV), rows[i]? = some r → r[j]? = some a → ∃ v, K'.F b (d + i * n + j) = some v ∧ RV K' a v)
    (hl : RL K' new.flatten vs) (hF : ∀ (j : Nat) (v : Value), vs[j]? = some v → K'.F b (d + rows.length * n + j) = some v)
    (hc : rows.length + new.length ≤ c) (ht : TkR K' tk' b (d + (rows.length + new.length) * n) (d + c * n) n (rows.length + new.length) c) :
    RV K' (.sl (rows ++ new) tk') (.slice (some ⟨b, d, none⟩) (rows.length + new.length) c) := by
  have key : ∀ (i : Nat) (r : List AV) (j : Nat) (a : AV), (rows ++ new)[i]? = some r → r[j]? = some a → ∃ v, K'.F b (d + i * n + j) = some v ∧ RV K' a v := by
    intro i r j a e e'
    rw [List.getElem?_append] at e
    split at e
    · exact hold i r j a e e'
    · rename_i hi
      obtain ⟨v, h1, h2⟩ := hl.get (flatten_get hr' e e')
      refine ⟨v, ?_, h2⟩
      have := hF _ v h1
      have hx : rows.length * n + (i - rows.length) * n = i * n := by rw [← Nat.add_mul]; congr 1; omega
      rw [show d + rows.length * n + ((i - rows.length) * n + j) = d + (rows.length * n + (i - rows.length) * n) + j by omega, hx] at this
      exact this
  have hr2 : ∀ r, r ∈ rows ++ new → r.length = n := fun r h => by
    rcases List.mem_append.1 h with h | h
    · exact hr r h
    · exact hr' r h
  have := RV.sl (K := K') (rows ++ new) tk' b d c n (fun k => (K'.F b (d + k)).getD Go.undef) hn hr2
    (fun i r j a e e' => by
      obtain ⟨v, h1, h2⟩ := key i r j a e e'
      rw [show d + (i * n + j) = d + i * n + j by omega, h1]; rfl)
    (fun i r j a e e' => by
      obtain ⟨v, h1, h2⟩ := key i r j a e e'
      rw [show d + (i * n + j) = d + i * n + j by omega, h1]; exact h2)
    (by simpa using hc) (by simpa using ht)
  simpa using this

theorem RV.sl_shape {rows : List (List AV)} {tk : Tk} {v : Value} (h : RV K (.sl rows tk) v) : ∃ base c, v = .slice base rows.length c ∧ rows.length ≤ c ∧ (tk = .nil ∨ tk = .full → c = rows.length) := by
  cases h with
  | slNil => exact ⟨none, 0, rfl, Nat.le_refl _, fun _ => rfl⟩
  | slE p tk ht => exact ⟨some p, 0, rfl, Nat.le_refl _, fun _ => rfl⟩
  | sl rows tk b0 d0 c sz cv h0 hrs hF hV hc ht =>
    refine ⟨_, c, rfl, hc, fun h => ?_⟩
    rcases h with rfl | rfl
    · exact ht.elim
    · exact Eq.symm ht

theorem all_len {rows : List (List AV)} {n : Nat} (h : rows.all (fun r => r.length.beq n) = true) : ∀ r, r ∈ rows → r.length = n := fun r hr => beq_of ((List.all_eq_true.1 h) r hr)

theorem app_ok (ok : CxOk X P) {n b : Nat} {x y r : AV} {hm : Bool} {s : Sem Next} (hs : InSim X P K s (.app n b x y hm)) (h : app n b x y hm H = some (r, H')) (hw : RW B W K H w) :
    ∃ v w' K', s.run P w = .ok (.value v) w' ∧ RV K' r v ∧ RW B W K' H' w' ∧ Fits K H K' H' := by
  obtain ⟨st, xt, ty, e, d, vx, vy, z, hu, hsz, hbb, hz, hzl, hxu, hd, hx, hy, hrun⟩ := hs
  have fin : ∀ {v : Value} {w' : World}, (Builtin.append_ #[st, xt] ty #[vx, vy]).run P w = .ok v w' → s.run P w = .ok (.value v) w' := by
    intro v w' h
    rw [hrun, runV, h]
    rfl
  unfold app at h
  cases hrd : readRows n y H with
  | none => simp [hrd] at h
  | some new =>
    simp only [hrd] at h
    cases hn0 : (n.beq 0 || !b.ble 100000) with
    | true => simp [hn0] at h
    | false =>
      simp only [hn0, cond_false] at h
      simp only [Bool.or_eq_false_iff, Bool.not_eq_false'] at hn0
      have hn : 0 < n := Nat.pos_of_ne_zero (bne_of hn0.1)
      have hb5 := ble_of hn0.2
      obtain ⟨hr', hlen, nvs, hnl, hnrun⟩ := firstCells_ok (P := P) hw hrd hy hn
      have hnfl := flatten_len hr'
      have hnvs : nvs.length = new.length * n := by rw [hnl.len, hnfl]
      cases x <;> (try simp only [] at h) <;> (try (cases h; done))
      case sl rows tk =>
        cases hc1 : (!((rows.length + new.length) * (b + 1)).blt most || !rows.all (fun r => r.length.beq n)) with
        | true => simp [hc1] at h
        | false =>
          simp only [hc1, cond_false] at h
          simp only [Bool.or_eq_false_iff, Bool.not_eq_false'] at hc1
          have hbig := blt_of hc1.1
          have hr := all_len hc1.2
          -- the move, whatever the token
          have hread : readRows n (.sl rows tk) H = some rows := by simp only [readRows, hc1.2, cond_true]
          have move : ∀ (base : Option Addr) (c : Nat), vx = .slice base rows.length c → c < rows.length + new.length → ∃ (nc : Nat) (rest : Array Value) (ovs : List Value), rows.length + new.length ≤ nc ∧
              rest.size = (nc - (rows.length + new.length)) * n ∧ RL K rows.flatten ovs ∧ ovs.length = rows.length * n ∧
              (Builtin.append_ #[st, xt] ty #[vx, vy]).run P w = .ok (.slice (some ⟨w.heap.size, 0, none⟩) (rows.length + new.length) nc) (w.drew.alloc (.cells (ovs.toArray ++ nvs.toArray ++ rest) e)) := by
            intro base c hv hlt
            obtain ⟨_, _, ovs, hol, horun⟩ := firstCells_ok (P := P) hw hread hx hn
            subst hv
            obtain ⟨nc, rest, q1, q2, q3⟩ := run_append_move (w := w) (ty := ty) ok hu hsz hbb hz hzl hxu hd hlen horun hnrun hbig hb5 hlt
            exact ⟨nc, rest, ovs, q1, q2, hol, by rw [hol.len, flatten_len hr], q3⟩
          -- moved: a new token
          have moved : ∀ (H0 : AH) (base : Option Addr) (c t' : Nat), vx = .slice base rows.length c → c < rows.length + new.length → RW B W K H0 w → H0.nx = H.nx → H0.new .tok = some (t', H') → r = .sl (rows ++ new) (.own t') →
              ∃ v w' K', s.run P w = .ok (.value v) w' ∧ RV K' r v ∧ RW B W K' H' w' ∧ Fits K H K' H' := by
            intro H0 base c t' hv hlt hw0 hnx hnew hre
            obtain ⟨nc, rest, ovs, q1, q2, q3, q4, q5⟩ := move base c hv hlt
            have hnc : (nc - (rows.length + new.length)) * n + (rows.length + new.length) * n = nc * n := by rw [← Nat.add_mul]; congr 1; omega
            have hvl : (ovs ++ nvs).length = (rows.length + new.length) * n := by rw [List.length_append, q4, hnvs, Nat.add_mul]
            obtain ⟨r1, r2⟩ := hw0.drew.tokNew hnew (ovs.toArray ++ nvs.toArray ++ rest) e (0, 0) (ovs ++ nvs) (nc * n) n
              (fun j v hj => by
                have hjl : j < (ovs ++ nvs).length := (List.getElem?_eq_some_iff.1 hj).1
                rw [Array.getElem?_append_left (by simpa using hjl)]
                simpa using hj)
              (by simp [q2, q4, hnvs]; rw [Nat.add_mul] at hnc; omega) (by rw [hvl]; omega) hn (fun o _ _ => by simp)
            refine ⟨_, _, _, fin q5, ?_, r1, ⟨r2.le, by have := r2.nx; omega, fun i hi => r2.old i (by omega)⟩⟩
            subst hre
            have hF : ∀ (j : Nat) (v : Value), (ovs ++ nvs)[j]? = some v → ((K.putF w.drew.heap.size 0 (ovs ++ nvs)).setτ t' (w.drew.heap.size, (ovs ++ nvs).length, nc * n, n)).F w.heap.size j = some v := by
              intro j v hj
              have := KC.putF_at (K := K) (b := w.heap.size) (e := 0) hj
              rw [Nat.zero_add] at this
              exact this
            refine RV.grow (K := K) (tk := .dead) r2.le hn hr hr' ?_ (hnl.mono r2.le) (fun j v hj => ?_) q1 ?_
            · intro i r' j a e1 e2
              obtain ⟨v, h1, h2⟩ := q3.get (flatten_get hr e1 e2)
              refine ⟨v, ?_, h2.mono r2.le⟩
              rw [Nat.zero_add]
              exact hF _ v (by rw [List.getElem?_append_left (List.getElem?_eq_some_iff.1 h1).1]; exact h1)
            · rw [Nat.zero_add]
              exact hF _ v (by rw [List.getElem?_append_right (by omega)]; rw [q4]; simpa using hj)
            · simp only [TkR, KC.setτ, if_true]
              rw [hvl]
              simp
          cases tk <;> (try simp only [] at h) <;> (try (cases h; done))
          case own t =>
            cases hg : H.get t with
            | none => simp [hg] at h
            | some ob =>
              cases ob <;> (try simp only [hg] at h) <;> (try (cases h; done))
              cases hc2 : (hm || !H.okI t || rows.isEmpty || !allOne new.flatten) with
              | true => simp [hc2] at h
              | false =>
                simp only [hc2, cond_false] at h
                simp only [Bool.or_eq_false_iff, Bool.not_eq_false'] at hc2
                obtain ⟨⟨⟨c1, c2⟩, c3⟩, c4⟩ := hc2
                have htlt := c2
                cases hnew : (H.set t none).new .tok with
                | none => simp [hnew] at h
                | some p =>
                  obtain ⟨t', H2⟩ := p
                  simp only [hnew, Option.some.injEq, Prod.mk.injEq] at h
                  obtain ⟨h, rfl⟩ := h
                  cases hx with
                  | slE p tk ht => rcases ht with h | h <;> cases h
                  | sl rows tk b0 d0 c sz cv h0 hrs hF hV hc ht =>
                    have hszn : sz = n := by
                      cases rows with
                      | nil => simp at c3
                      | cons r0 rs => rw [← hrs r0 (List.mem_cons_self ..), hr r0 (List.mem_cons_self ..)]
                    subst hszn
                    have ht' : K.τ t = some (b0, d0 + rows.length * sz, d0 + c * sz, sz) := ht
                    by_cases hroom : rows.length + new.length ≤ c
                    · -- in place
                      obtain ⟨arr, ty0, fz, k1, k2, k3, k4, k5, k6⟩ := hw.obj t .tok hg _ _ _ _ ht'
                      have hmul : rows.length * sz + new.length * sz ≤ c * sz := by rw [← Nat.add_mul]; exact Nat.mul_le_mul_right sz hroom
                      obtain ⟨arr', s1, s2, s3⟩ := run_storeCells (P := P) nvs 0 w b0 (d0 + rows.length * sz) ty0 arr fz k1 (hnl.one_ c4) (by omega) (fun j hj hj' => k5 j (by omega) (by omega))
                      obtain ⟨r1, r2⟩ := hw.tokIn hg ht' htlt hnew arr arr' ty0 fz nvs k1 (by omega) s2 (fun j => by simpa using s3 j)
                      refine ⟨_, _, _, fin (run_append_in (w := w) (ty := ty) ok hu hsz hxu hd hlen (hnrun w (fun a => rfl)) hroom (base := some ⟨b0, d0, none⟩) (fun a ha => ?_) (fun ha => by cases ha)), ?_, r1, ⟨r2.le, ?_, r2.old⟩⟩
                      · injection ha with ha
                        subst ha
                        rw [add_plain]
                        exact s1
                      · subst h
                        refine RV.grow (K := K) (tk := .dead) r2.le hn hr hr' (fun i r' j a e1 e2 => ⟨cv (i * sz + j), r2.le.F _ _ _ (hF i r' j a e1 e2), (hV i r' j a e1 e2).mono r2.le⟩) (hnl.mono r2.le) (fun j v hj => KC.putF_at (K := K) hj) hroom ?_
                        simp only [TkR, KC.setτ, if_true]
                        rw [hnvs, Nat.add_mul]
                        simp [Nat.add_assoc]
                      · exact r2.nx
                    · exact moved (H.set t none) _ c t' rfl (by omega) (hw.kill htlt) (AH.nx_set _ _ _) hnew h.symm
          all_goals
            -- nil, or full: where something comes it moves
            cases hne : new.isEmpty with
            | true =>
              have hnil : new = [] := by simpa using hne
              subst hnil
              simp at h
              obtain ⟨rfl, rfl⟩ := h
              have hnvs0 : nvs = [] := by apply List.eq_nil_of_length_eq_zero; simpa using hnvs
              subst hnvs0
              obtain ⟨base, c, hvx, hcc, _⟩ := hx.sl_shape
              refine ⟨vx, w, K, ?_, hx, hw, .refl K H⟩
              have := run_append_in (w := w) (w' := w) (ty := ty) (L := rows.length) (m := 0) (cap := c) (base := base) ok hu hsz hxu hd hlen (hnrun w (fun a => rfl)) (by simpa using hcc) (fun a ha => rfl) (fun ha => rfl)
              rw [← hvx] at this
              have h2 := fin this
              rw [h2, hvx]
              simp
            | false =>
              simp only [hne, cond_false] at h
              have hpos : 0 < new.length := by
                cases new with
                | nil => simp at hne
                | cons a l => simp
              obtain ⟨base, c, hvx, _, hcc0⟩ := hx.sl_shape
              have hcc : c < rows.length + new.length := by have := hcc0 (by simp); omega
              cases hmm : hm with
              | true =>
                simp only [hmm, cond_true] at h
                cases hnew : H.new (.cells (rows ++ new).flatten) with
                | none => rw [hnew] at h; cases h
                | some p =>
                  obtain ⟨i, H2⟩ := p
                  simp only [hnew, Option.some.injEq, Prod.mk.injEq] at h
                  obtain ⟨h, rfl⟩ := h
                  obtain ⟨nc, rest, ovs, q1, q2, q3, q4, q5⟩ := move base c hvx hcc
                  have hnc : (nc - (rows.length + new.length)) * n + (rows.length + new.length) * n = nc * n := by rw [← Nat.add_mul]; congr 1; omega
                  have hsize : (ovs.toArray ++ nvs.toArray ++ rest).size = nc * n := by simp [q2, q4, hnvs]; rw [Nat.add_mul] at hnc; omega
                  obtain ⟨hw1, fit1, hgi, hmi, hτi, hii⟩ := hw.drew.vnew hnew
                  have hnx := (AH.new_spec hnew).1
                  have hp := hw1.place hgi (by simp) hmi hii (.cells (ovs.toArray ++ nvs.toArray ++ rest) e) (nc * n) (fun K' hK b1 z1 hb1 => by
                    subst hK
                    simp [KC.setμ] at hb1
                    obtain ⟨rfl, rfl⟩ := hb1
                    refine ⟨_, e, by show (w.heap.push _)[w.heap.size]? = _; simp, hsize, ?_, fun j a x e1 e2 => ?_, fun o => hw.noF o⟩
                    · rw [List.flatten_append, List.length_append, flatten_len hr, hnfl]; rw [Nat.add_mul] at hnc; omega
                    · rw [List.flatten_append] at e1
                      have hl2 := q3.append hnl
                      have hj : j < (ovs ++ nvs).length := by rw [hl2.len]; exact (List.getElem?_eq_some_iff.1 e1).1
                      rw [Array.getElem?_append_left (by simpa using hj)] at e2
                      exact (hl2.at_ j a x e1 (by simpa using e2)).mono (KC.le_setμ hmi))
                  refine ⟨_, _, _, fin q5, ?_, hp, ⟨KC.le_setμ hmi, fit1.nx, fun j hj => ⟨by simp [KC.setμ]; omega, rfl⟩⟩⟩
                  subst h
                  exact .hsl i 0 0 _ _ nc w.heap.size (nc * n) n true (by simp [KC.setμ]) (Nat.le_refl _) q1 (fun _ => by omega) (.inl rfl)
              | false =>
                simp only [hmm, cond_false] at h
                cases hnew : H.new .tok with
                | none => simp [hnew] at h
                | some p =>
                  obtain ⟨t', H2⟩ := p
                  simp only [hnew, Option.some.injEq, Prod.mk.injEq] at h
                  obtain ⟨h, rfl⟩ := h
                  exact moved H base c t' hvx hcc hw rfl hnew h.symm
      case hsl i o k c sz g =>
        cases hc1 : (!g || !((k + new.length) * (b + 1)).blt most || !sz.beq n || !o.beq 0 || !H.okI i || !allOne new.flatten) with
        | true => simp [hc1] at h
        | false =>
          simp only [hc1, cond_false] at h
          simp only [Bool.or_eq_false_iff, Bool.not_eq_false'] at hc1
          obtain ⟨⟨⟨⟨⟨c1, c2⟩, c3⟩, c4⟩, c5⟩, c6⟩ := hc1
          have hbig := blt_of c2
          have hszn := beq_of c3
          have ho0 := beq_of c4
          have hilt := c5
          subst hszn; subst ho0
          cases hx with
          | hsl i o o' k c c' b0 z0 sz g hmi hkc hcc hz0 ho' =>
            have hz1 := hz0 c1
            rw [Nat.zero_add] at hz1
            cases hne : new.isEmpty with
            | true =>
              have hnil : new = [] := by simpa using hne
              subst hnil
              simp at h
              obtain ⟨rfl, rfl⟩ := h
              have hnvs0 : nvs = [] := by apply List.eq_nil_of_length_eq_zero; simpa using hnvs
              subst hnvs0
              refine ⟨_, w, K, ?_, .hsl i 0 o' k c c' b0 z0 sz g hmi hkc hcc hz0 ho', hw, .refl K H⟩
              have := run_append_in (w := w) (w' := w) (ty := ty) (L := k) (m := 0) (cap := c') (base := some ⟨b0, o', none⟩) ok hu hsz hxu hd hlen (hnrun w (fun a => rfl)) (by omega) (fun a ha => rfl) (fun ha => rfl)
              exact fin this
            | false =>
              simp only [hne, cond_false] at h
              have hpos : 0 < new.length := by
                cases new with
                | nil => simp at hne
                | cons a l => simp
              cases hg : H.get i with
              | none => simp [hg] at h
              | some ob =>
                cases ob <;> (try simp only [hg] at h) <;> (try (cases h; done))
                rename_i cs
                cases hsl : slice? cs 0 (k * sz) with
                | none => simp [hsl] at h
                | some old =>
                  simp only [hsl] at h
                  cases hnew : (H.set i none).new (.cells (old ++ new.flatten)) with
                  | none => simp [hnew] at h
                  | some p =>
                    obtain ⟨j, H2⟩ := p
                    simp only [hnew, Option.some.injEq, Prod.mk.injEq] at h
                    obtain ⟨h, rfl⟩ := h
                    obtain ⟨arr, ty0, a1, a2, a3, a4, a5⟩ := hw.obj i _ hg b0 z0 hmi
                    have hk0 := hw.kill (t := i) hilt
                    obtain ⟨hw1, fit1, hgj, hmj, hτj, hjj⟩ := hk0.vnew hnew
                    have hnx := (AH.new_spec hnew).1
                    have hnx0 : (H.set i none).nx = H.nx := AH.nx_set _ _ _
                    obtain ⟨o1, o2, o3⟩ := slice?_spec hsl
                    have holdl : old.length = k * sz := o2
                    have hown0 : own K H i = some b0 := own_of hg (by simp [plc, hmi])
                    obtain ⟨hlo, hhi⟩ := hw.low i b0 hown0
                    have hfits : ∀ x, Fits K H (K.setμ j x) H2 := fun x => ⟨KC.le_setμ hmj, by have := fit1.nx; omega, fun q hq => ⟨by simp [KC.setμ]; omega, rfl⟩⟩
                    by_cases hroom : k + new.length ≤ c'
                    · have ho2 : o' = 0 := ho'.resolve_right (by omega)
                      subst ho2
                      have hmul : k * sz + new.length * sz ≤ c' * sz := by rw [← Nat.add_mul]; exact Nat.mul_le_mul_right sz hroom
                      obtain ⟨arr', s1, s2, s3⟩ := run_storeCells (P := P) nvs 0 w b0 (k * sz) ty0 arr (0, 0) a1 (hnl.one_ c6) (by omega) (fun j hj hj' => by simp)
                      have hp := hw1.rehome hgj (by simp) hmj hjj (.cells arr' ty0 (0, 0)) z0 ⟨hlo, hhi⟩ (fun q hq => by
                        obtain ⟨oq, hq1, hq2⟩ := own_some hq
                        have hgq := (AH.new_spec hnew).2.2.2 q
                        rw [AH.get_set H i q none hilt] at hgq
                        by_cases e1 : q = j
                        · subst e1
                          rw [hgj] at hq1
                          injection hq1 with hq1
                          subst hq1
                          simp [plc, hmj] at hq2
                        · rw [if_neg e1] at hgq
                          by_cases e2 : q = i
                          · rw [if_pos e2] at hgq; rw [hgq] at hq1; cases hq1
                          · rw [if_neg e2] at hgq
                            rw [hgq] at hq1
                            exact e2 (hw.sep q i b0 (own_of hq1 hq2) hown0)) a5 (fun b1 z1 hb1 => by
                        simp [KC.setμ] at hb1
                        obtain ⟨rfl, rfl⟩ := hb1
                        refine ⟨arr', ty0, by show (w.heap.setIfInBounds b0 _)[b0]? = _; rw [Array.getElem?_setIfInBounds_self_of_lt hhi], by omega, by rw [List.length_append, holdl, hnfl]; omega, fun q a x e1 e2 => ?_, a5⟩
                        rw [List.getElem?_append] at e1
                        rw [s3] at e2
                        rw [holdl] at e1
                        by_cases hq : q < k * sz
                        · rw [if_pos hq] at e1
                          rw [if_neg (by omega)] at e2
                          rw [slice?_get hsl hq] at e1
                          rw [Nat.zero_add] at e1
                          exact (a4 q a x e1 e2).mono (KC.le_setμ hmj)
                        · rw [if_neg hq] at e1
                          have hq2 : q - k * sz < new.length * sz := by have := (List.getElem?_eq_some_iff.1 e1).1; omega
                          rw [if_pos (by omega)] at e2
                          exact (hnl.at_ _ a x e1 (by simpa using e2)).mono (KC.le_setμ hmj))
                      refine ⟨_, _, _, fin (run_append_in (w := w) (ty := ty) ok hu hsz hxu hd hlen (hnrun w (fun a => rfl)) hroom (base := some ⟨b0, 0, none⟩) (fun a ha => ?_) (fun ha => by cases ha)), ?_, hp, hfits _⟩
                      · injection ha with ha
                        subst ha
                        rw [add_plain, Nat.zero_add]
                        exact s1
                      · subst h
                        exact .hsl j 0 0 _ _ c' b0 z0 sz true (by simp [KC.setμ]) (Nat.le_refl _) hroom (fun _ => by omega) (.inl rfl)
                    · -- it moves
                      have hmv : ∃ ovs : List Value, RL K old ovs ∧ ∀ w', (∀ a, w'.cell? a = w.cell? a) → (Builtin.firstCells sz k (.slice (some ⟨b0, o', none⟩) k c')).run P w' = .ok ovs.toArray w' := by
                        by_cases hk : k = 0
                        · subst hk
                          have : old = [] := by apply List.eq_nil_of_length_eq_zero; simpa using holdl
                          subst this
                          exact ⟨[], .nil, fun w' _ => by simp [Builtin.firstCells, loadCells, loadCellsFrom]⟩
                        · have ho2 : o' = 0 := ho'.resolve_right (by omega)
                          subst ho2
                          have hrd2 := (hw.reads hg hmi).slice hsl
                          obtain ⟨ovs, k1, k2⟩ := hrd2.cells
                          refine ⟨ovs, k1, fun w' hw' => ?_⟩
                          have hl : k * sz = ovs.length := by rw [k1.len, holdl]
                          simp only [Builtin.firstCells, hl]
                          exact run_loadCells_list (P := P) w' ⟨b0, 0, none⟩ ovs (fun j v e => by rw [add_plain, hw']; have := k2 j v e; simpa using this)
                      obtain ⟨ovs, hol, horun⟩ := hmv
                      obtain ⟨nc, rest, q1, q2, q3⟩ := run_append_move (w := w) (ty := ty) ok hu hsz hbb hz hzl hxu hd hlen horun hnrun hbig hb5 (by omega)
                      have hnc : (nc - (k + new.length)) * sz + (k + new.length) * sz = nc * sz := by rw [← Nat.add_mul]; congr 1; omega
                      have hovl : ovs.length = k * sz := by rw [hol.len, holdl]
                      have hsize : (ovs.toArray ++ nvs.toArray ++ rest).size = nc * sz := by simp [q2, hovl, hnvs]; rw [Nat.add_mul] at hnc; omega
                      have hp := hw1.drew.place hgj (by simp) hmj hjj (.cells (ovs.toArray ++ nvs.toArray ++ rest) e) (nc * sz) (fun K' hK b1 z1 hb1 => by
                        subst hK
                        simp [KC.setμ] at hb1
                        obtain ⟨rfl, rfl⟩ := hb1
                        refine ⟨_, e, by show (w.heap.push _)[w.heap.size]? = _; simp, hsize, ?_, fun j' a x e1 e2 => ?_, fun o => hw.noF o⟩
                        · rw [List.length_append, holdl, hnfl]; rw [Nat.add_mul] at hnc; omega
                        · have hl2 := hol.append hnl
                          have hj : j' < (ovs ++ nvs).length := by rw [hl2.len]; exact (List.getElem?_eq_some_iff.1 e1).1
                          rw [Array.getElem?_append_left (by simpa using hj)] at e2
                          exact (hl2.at_ j' a x e1 (by simpa using e2)).mono (KC.le_setμ hmj))
                      refine ⟨_, _, _, fin q3, ?_, hp, hfits _⟩
                      subst h
                      exact .hsl j 0 0 _ _ nc w.heap.size (nc * sz) sz true (by simp [KC.setμ]) (Nat.le_refl _) q1 (fun _ => by omega) (.inl rfl)

end
end Go.Aes
