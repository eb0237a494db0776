import Derived.Test.YtgmifbbimcblcaaO5
set_option linter.all false
set_option linter.unusedVariables false
set_option linter.unusedSimpArgs false
namespace Go.Aes
open Go.RowKit

def runV (P : Program) (s : Sem Value) (w : World) : Result Next := (s.run P w).andThen fun x w' => .ok (.value x) w'
def runU (P : Program) (s : Sem Unit) (w : World) : Result Next := (s.run P w).andThen fun _ w' => .ok .skip w'

def InSim (X : Cx) (P : Program) (K : KC) (s : Sem Next) : In → Prop
  | .val a => ∃ v, (∀ w, s.run P w = .ok (.value v) w) ∧ RV K a v
  | .row rows sz => ∃ (vs : List Value) (ty : Nat), 0 < sz ∧ (∀ r, r ∈ rows → r.length = sz) ∧ RL K rows.flatten vs ∧
      ∀ w, s.run P w = .ok (.value (.slice (some ⟨w.heap.size, 0, none⟩) rows.length rows.length)) (w.alloc (.cells vs.toArray ty))
  | .new (.cells cs) wr => ∃ (vs : List Value) (ty : Nat), RL K cs vs ∧
      ∀ w, ∃ v, s.run P w = .ok (.value v) (w.alloc (.cells vs.toArray ty)) ∧ ∀ (K' : KC) (i : Nat), K'.μ i = some (w.heap.size, vs.length) → RV K' (wr.mk i) v
  | .new (.map es) wr => es = [] ∧ ∀ w, ∃ v, s.run P w = .ok (.value v) (w.alloc (.map #[] 0)) ∧ ∀ (K' : KC) (i z : Nat), K'.μ i = some (w.heap.size, z) → RV K' (wr.mk i) v
  | .new (.iter rest pos) wr => ∃ sb : ByteArray, sb.data.toList.drop pos = rest ∧
      ∀ w, ∃ v, s.run P w = .ok (.value v) (w.alloc (.stringIter sb pos)) ∧ ∀ (K' : KC) (i z : Nat), K'.μ i = some (w.heap.size, z) → RV K' (wr.mk i) v
  | .new .tok _ => False
  | .load t a => ∃ v, RV K a v ∧ ∀ w, s.run P w = runV P (Instr.loadAt t v) w
  | .look t m k ok => ∃ vm vk, RV K m vm ∧ RV K k vk ∧ ∀ w, s.run P w = runV P (Instr.lookup t vm vk ok) w
  | .mlen r => ∃ b z, K.μ r = some (b, z) ∧ ∀ w ents clock, w.heap[b]? = some (.map ents clock) → s.run P w = .ok (.value (.int .i64 ents.size)) w
  | .bstr x => ∃ v, RV K x v ∧ ∀ w, s.run P w = runV P (Conv.bytesToString v) w
  | .store t a x => ∃ va vx, RV K a va ∧ RV K x vx ∧ ∀ w, s.run P w = runU P (Instr.storeAt t va vx) w
  | .mset t m k x => ∃ vm vk vx, RV K m vm ∧ RV K k vk ∧ RV K x vx ∧ ∀ w, s.run P w = runU P (Instr.mapUpdate t vm vk vx) w
  | .next i => ∃ b z ty, K.μ i = some (b, z) ∧ ∀ w, s.run P w = runV P (Instr.next (.pointer (some ⟨b, 0, none⟩)) true ty) w
  | .app n b x y hm => ∃ st xt ty e d vx vy z, X.und st = some (.slice e) ∧ X.size e = some n ∧ X.bytes e = some b ∧ X.zero e = some z ∧ z.length = n ∧ X.und xt = some d ∧ (∀ k, d ≠ .int k) ∧ RV K x vx ∧ RV K y vy ∧
      ∀ w, s.run P w = runV P (Builtin.append_ #[st, xt] ty #[vx, vy]) w
  | .call g as => ∃ vs : List Value, RL K as vs ∧ ∀ w, s.run P w = (callFunc g vs.toArray).run P w
  | .panic x => ∃ v, RV K x v ∧ ∀ w, s.run P w = .halt (.panic v) w

section
variable {X : Cx} {P : Program} {K : KC}

theorem insim_val {s : Sem Value} {r : AV} (h : PureOk P K s r) : InSim X P K (do pure (.value (← s)) : Sem Next) (.val r) := by
  obtain ⟨v, h1, h2⟩ := h
  exact ⟨v, fun w => by rw [Sem.run_bind, h1]; rfl, h2⟩

theorem pv_some {x : Option AV} {i : In} (h : pv x = some i) : ∃ r, x = some r ∧ i = .val r := by
  obtain ⟨r, h1, h2⟩ := Option.map_eq_some_iff.1 h
  exact ⟨r, h1, h2.symm⟩

theorem RF.evo {nt : Nat} {fr : Fr} {a : Act} (x : RF K nt fr a) {o : Option Operand} {v : Option AV} (h : Aes.evo fr o = some v) : RO' K v (o.map a.eval) := by
  cases o with
  | none => simp [Aes.evo] at h; subst h; exact .none
  | some o =>
    simp only [Aes.evo] at h
    obtain ⟨v', h1, rfl⟩ := Option.map_eq_some_iff.1 h
    exact .some _ _ (x.ev h1)

theorem flatten_len {rows : List (List AV)} {sz : Nat} (h : ∀ r, r ∈ rows → r.length = sz) : rows.flatten.length = rows.length * sz := by
  induction rows with
  | nil => simp
  | cons r rs ih =>
    simp only [List.flatten_cons, List.length_append, List.length_cons]
    rw [ih (fun r hr => h r (List.mem_cons_of_mem _ hr)), h r (List.mem_cons_self ..), Nat.add_mul]
    omega

theorem flatten_get {rows : List (List AV)} {sz : Nat} (h : ∀ r, r ∈ rows → r.length = sz) {i j : Nat} {r : List AV} {a : AV} (hi : rows[i]? = some r) (hj : r[j]? = some a) :
    rows.flatten[i * sz + j]? = some a := by
  induction rows generalizing i with
  | nil => simp at hi
  | cons r0 rs ih =>
    have hl := h r0 (List.mem_cons_self ..)
    have hjlt : j < r.length := (List.getElem?_eq_some_iff.1 hj).1
    cases i with
    | zero =>
      simp at hi
      subst hi
      simp only [List.flatten_cons, Nat.zero_mul, Nat.zero_add]
      rw [List.getElem?_append_left hjlt]
      exact hj
    | succ i =>
      simp only [List.getElem?_cons_succ] at hi
      simp only [List.flatten_cons]
      rw [List.getElem?_append_right (by rw [hl, Nat.add_mul]; omega), hl]
      rw [show (i + 1) * sz + j - sz = i * sz + j by rw [Nat.add_mul]; omega]
      exact ih (fun r hr => h r (List.mem_cons_of_mem _ hr)) hi

/-- the model's fill of a row, row by row -/
theorem fill_rows {z : List AV} {n : Nat} (hz : z.length = n) : ∀ (parts : List (Nat × AV)) (parts' : List (Nat × Value)) (rows rows' : List (List AV)) (arr : Array Value),
    putRow z rows parts = some rows' → parts'.map (·.1) = parts.map (·.1) → RL K (parts.map (·.2)) (parts'.map (·.2)) → (∀ r, r ∈ rows → r.length = n) → RL K rows.flatten arr.toList →
    ∃ arr', Instr.fill (fun i => some (i * n, n)) arr parts' = some arr' ∧ RL K rows'.flatten arr'.toList ∧ (∀ r, r ∈ rows' → r.length = n) ∧ rows'.length = rows.length
  | [], parts', rows, rows', arr, h, h1, h2, h3, h4 => by
    have : parts' = [] := by simpa using h1
    subst this
    simp [putRow] at h
    subst h
    exact ⟨arr, rfl, h4, h3, rfl⟩
  | (i, v) :: rest, parts', rows, rows', arr, h, h1, h2, h3, h4 => by
    cases parts' with
    | nil => simp at h1
    | cons p parts' =>
      obtain ⟨i', v'⟩ := p
      simp only [List.map_cons, List.cons.injEq] at h1
      obtain ⟨rfl, h1⟩ := h1
      obtain ⟨v1, vs1, e1, hv, hvs⟩ := RL.cons_inv h2
      simp only [List.map_cons, List.cons.injEq] at e1
      obtain ⟨rfl, rfl⟩ := e1
      simp only [putRow] at h
      cases hb : (v.cells.length.beq z.length && allOne v.cells && i'.blt rows.length) with
      | false => simp [hb] at h
      | true =>
        simp only [hb, cond_true] at h
        have hb1 := Bool.and_eq_true_iff.1 hb
        have hilt := blt_of hb1.2
        have hvl : v.cells.length = n := by have := beq_of (Bool.and_eq_true_iff.1 hb1.1).1; omega
        have hl := hv.cells
        have hsz : v'.cells.size = n := by have := hl.len; simp at this; omega
        have hfl : arr.size = rows.length * n := by have := h4.len; rw [flatten_len h3] at this; simpa using this
        have hmul : i' * n + n ≤ rows.length * n := by
          have : (i' + 1) * n ≤ rows.length * n := Nat.mul_le_mul_right n hilt
          rw [Nat.add_mul] at this; omega
        obtain ⟨f1, f2⟩ := fold_set (i' * n) v'.cells.toList 0 arr (by simp; omega)
        have h3' : ∀ r, r ∈ rows.set i' v.cells → r.length = n := by
          intro r hr
          rcases List.mem_or_eq_of_mem_set hr with hr | rfl
          · exact h3 r hr
          · exact hvl
        have h4' : RL K (rows.set i' v.cells).flatten ((v'.cells.toList.zipIdx 0).foldl (fun cs p => cs.setIfInBounds (i' * n + p.2) p.1) arr).toList := by
          refine ⟨by rw [flatten_len h3']; simp only [List.length_set, Array.length_toList]; rw [f1]; exact hfl, fun (j : Nat) (x : AV) (y : Value) e e' => ?_⟩
          have hn0 : 0 < n := by
            rcases Nat.eq_zero_or_pos n with h0 | h0
            · exfalso
              have hlen := flatten_len h3'
              rw [h0, Nat.mul_zero] at hlen
              have := (List.getElem?_eq_some_iff.1 e).1
              omega
            · exact h0
          have hjlt : j < rows.length * n := by
            have := (List.getElem?_eq_some_iff.1 e).1
            rw [flatten_len h3'] at this
            simpa using this
          have hdm := Nat.div_add_mod j n
          have hmod := Nat.mod_lt j hn0
          have hq : j / n < rows.length := by rw [Nat.div_lt_iff_lt_mul hn0]; exact hjlt
          have hjj : j = (j / n) * n + j % n := by rw [Nat.mul_comm]; exact hdm.symm
          have e2 : ((v'.cells.toList.zipIdx 0).foldl (fun cs p => cs.setIfInBounds (i' * n + p.2) p.1) arr)[j]? = some y := by simpa using e'
          rw [f2] at e2
          simp only [Nat.add_zero, Array.length_toList, hsz] at e2
          by_cases hqi : j / n = i'
          · have hrow : (rows.set i' v.cells)[j / n]? = some v.cells := by rw [hqi]; simp [hilt]
            have hc : v.cells[j % n]? = some (v.cells[j % n]'(by omega)) := List.getElem?_eq_getElem _
            have := flatten_get h3' hrow hc
            rw [← hjj, e] at this
            injection this with this
            rw [if_pos (by rw [hqi] at hjj; omega)] at e2
            have hsub : j - i' * n = j % n := by rw [hqi] at hjj; omega
            rw [hsub] at e2
            exact hl.at_ (j % n) x y (by rw [hc, this]) e2
          · have hrow : (rows.set i' v.cells)[j / n]? = rows[j / n]? := List.getElem?_set_ne (Ne.symm hqi)
            have hro : rows[j / n]? = some (rows[j / n]'hq) := List.getElem?_eq_getElem _
            have hrl := h3 _ (List.getElem_mem hq)
            have hc : (rows[j / n]'hq)[j % n]? = some ((rows[j / n]'hq)[j % n]'(by omega)) := List.getElem?_eq_getElem _
            have g1 := flatten_get h3' (hrow.trans hro) hc
            have g2 := flatten_get h3 hro hc
            rw [← hjj] at g1 g2
            rw [e] at g1
            injection g1 with g1
            rw [if_neg] at e2
            · exact h4.at_ j x y (by rw [g2, g1]) (by simpa using e2)
            · rintro ⟨c1, c2⟩
              apply hqi
              have : i' * n ≤ j ∧ j < (i' + 1) * n := ⟨c1, by rw [Nat.add_mul]; omega⟩
              have h5 := (Nat.le_div_iff_mul_le hn0).2 this.1
              have h6 := (Nat.div_lt_iff_lt_mul hn0).2 this.2
              omega
        obtain ⟨arr', k1, k2, k3, k4⟩ := fill_rows hz rest parts' (rows.set i' v.cells) rows' _ h h1 hvs h3' h4'
        refine ⟨arr', ?_, k2, k3, by rw [k4]; simp⟩
        rw [← k1]
        simp only [Instr.fill]
        rw [if_neg (by simp only [Bool.or_eq_true, decide_eq_true_eq]; omega)]
        congr 1
        rw [← Array.foldl_toList]
        simp [Array.toList_zipIdx]

theorem replicate_flatten (z : List AV) (zv : List Value) (h : RL K z zv) : ∀ (n : Nat), RL K (List.replicate n z).flatten (List.replicate n zv).flatten
  | 0 => .nil
  | n + 1 => by
    simp only [List.replicate_succ, List.flatten_cons]
    exact h.append (replicate_flatten z zv h n)

theorem zero_cells {zero : Array Value} {n : Nat} (hz : 0 < zero.size) : ((Array.range (n * zero.size)).map (zero[· % zero.size]!)).toList = (List.replicate n zero.toList).flatten := by
  apply List.ext_getElem?
  intro j
  have hlen : ∀ m, ((List.replicate m zero.toList).flatten).length = m * zero.size := by
    intro m
    induction m with
    | zero => simp
    | succ m ih => simp only [List.replicate_succ, List.flatten_cons, List.length_append, ih, Array.length_toList, Nat.add_mul]; omega
  have hget : ∀ m j, j < m * zero.size → ((List.replicate m zero.toList).flatten)[j]? = zero[j % zero.size]? := by
    intro m
    induction m with
    | zero => intro j hj; simp at hj
    | succ m ih =>
      intro j hj
      simp only [List.replicate_succ, List.flatten_cons]
      by_cases h1 : j < zero.size
      · rw [List.getElem?_append_left (by simpa using h1), Nat.mod_eq_of_lt h1]; simp
      · rw [List.getElem?_append_right (by simpa using h1)]
        rw [Nat.add_mul] at hj
        rw [Array.length_toList, ih (j - zero.size) (by omega)]
        congr 1
        rw [Nat.mod_eq_sub_mod (by omega : j ≥ zero.size)]
  by_cases hj : j < n * zero.size
  · rw [hget n j hj]
    have hm := Nat.mod_lt j hz
    simp [hj, getElem!_pos zero (j % zero.size) hm, hm]
  · rw [List.getElem?_eq_none (by simp; omega), List.getElem?_eq_none (by rw [hlen]; omega)]

end
end Go.Aes
