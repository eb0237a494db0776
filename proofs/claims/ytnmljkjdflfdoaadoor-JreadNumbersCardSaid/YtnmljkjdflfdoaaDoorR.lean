import Derived.Test.YtnmljkjdflfdoaaDoorD
set_option linter.all false
set_option linter.unusedVariables false
set_option linter.unusedSimpArgs false
namespace Go.Aes
open Go.RowKit

/-! ### the trie -/
theorem Tr.get_leaf {α : Type} (k : Nat) : (Tr.leaf : Tr α).get k = none := by cases k <;> rfl

theorem Tr.get_put {α : Type} (v : Option α) : ∀ (n : Nat) (t : Tr α) (k j : Nat), k + 1 < 2 ^ n → (Tr.put v n t k).get j = if j = k then v else t.get j := by
  intro n
  induction n with
  | zero => intro t k j h; simp at h
  | succ n ih =>
    intro t k j h
    have key : ∀ k, k + 1 < 2 ^ (n + 1) → k ≠ 0 → k % 2 = 1 → k / 2 + 1 < 2 ^ n := by
      intro k hk h0 h1
      rw [Nat.pow_succ] at hk; omega
    have key2 : ∀ k, k + 1 < 2 ^ (n + 1) → k ≠ 0 → k % 2 ≠ 1 → k / 2 - 1 + 1 < 2 ^ n := by
      intro k hk h0 h1
      rw [Nat.pow_succ] at hk; omega
    have hb : ∀ a b : Nat, a.beq b = decide (a = b) := by
      intro a b; rw [Bool.eq_iff_iff]; simp
    cases t with
    | leaf =>
      simp only [Tr.put, hb]
      by_cases h0 : k = 0
      · subst h0
        simp only [decide_true, cond_true, Tr.get, hb]
        by_cases hj : j = 0
        · simp [hj]
        · simp [hj, Tr.get_leaf]
      · simp only [h0, decide_false, cond_false]
        by_cases h1 : k % 2 = 1
        · simp only [h1, decide_true, cond_true, Tr.get, hb, ih _ _ _ (key k h h0 h1), Tr.get_leaf]
          by_cases hj : j = 0
          · have : ¬ j = k := by omega
            simp [hj]; omega
          · by_cases hj1 : j % 2 = 1
            · simp [hj, hj1, Tr.get_leaf]
              by_cases e : j = k
              · simp [e]
              · rw [if_neg (by omega), if_neg e]
            · simp [hj, hj1, Tr.get_leaf]
              intro e; omega
        · simp only [h1, decide_false, cond_false, Tr.get, hb, ih _ _ _ (key2 k h h0 h1), Tr.get_leaf]
          by_cases hj : j = 0
          · simp [hj]; omega
          · by_cases hj1 : j % 2 = 1
            · simp [hj, hj1, Tr.get_leaf]
              intro e; omega
            · simp [hj, hj1, Tr.get_leaf]
              by_cases e : j = k
              · simp [e]
              · rw [if_neg (by omega), if_neg e]
    | node u l r =>
      simp only [Tr.put, hb]
      by_cases h0 : k = 0
      · subst h0
        simp only [decide_true, cond_true, Tr.get, hb]
        by_cases hj : j = 0
        · simp [hj]
        · simp [hj]
      · simp only [h0, decide_false, cond_false]
        by_cases h1 : k % 2 = 1
        · simp only [h1, decide_true, cond_true, Tr.get, hb, ih _ _ _ (key k h h0 h1)]
          by_cases hj : j = 0
          · simp [hj]; omega
          · by_cases hj1 : j % 2 = 1
            · simp [hj, hj1]
              by_cases e : j = k
              · simp [e]
              · rw [if_neg (by omega), if_neg e]
            · simp [hj, hj1]
              intro e; omega
        · simp only [h1, decide_false, cond_false, Tr.get, hb, ih _ _ _ (key2 k h h0 h1)]
          by_cases hj : j = 0
          · simp [hj]; omega
          · by_cases hj1 : j % 2 = 1
            · simp [hj, hj1]
              intro e; omega
            · simp [hj, hj1]
              by_cases e : j = k
              · simp [e]
              · rw [if_neg (by omega), if_neg e]

theorem AH.get_set (H : AH) (i j : Nat) (o : Option AO) (h : H.okI i = true) : (H.set i o).get j = if j = i then o else H.get j := by
  cases H with
  | tr t nx =>
    have : i < 1000000000001 := by simpa [AH.okI, Nat.blt_eq] using h
    simp [AH.set, AH.get, Tr.get_put o 40 t i j (by omega)]
  | fn f nx p =>
    have : i < nx := by simpa [AH.okI, Nat.blt_eq] using h
    simp only [AH.set, dif_pos this, AH.get]

theorem AH.nx_set (H : AH) (i : Nat) (o : Option AO) : (H.set i o).nx = H.nx := by
  cases H with
  | tr t nx => rfl
  | fn f nx p =>
    unfold AH.set
    simp only []
    split <;> rfl

theorem AH.le_set (H : AH) (i : Nat) (o : Option AO) : H.nx ≤ (H.set i o).nx := by rw [AH.nx_set]; exact Nat.le_refl _

theorem AH.new_spec {H H' : AH} {o : AO} {i : Nat} (h : H.new o = some (i, H')) :
    i = H.nx ∧ H'.nx = H.nx + 1 ∧ True ∧ ∀ j, H'.get j = if j = i then some o else H.get j := by
  unfold AH.new at h
  cases H with
  | tr t nx =>
    simp only [] at h
    cases hb : (nx.blt 1000000000000 && (t.get nx).isNone) with
    | false => simp [hb] at h
    | true =>
      simp only [hb, cond_true, Option.some.injEq, Prod.mk.injEq] at h
      obtain ⟨rfl, rfl⟩ := h
      have hlt : nx < 1000000000000 := by simpa [Nat.blt_eq] using (Bool.and_eq_true_iff.1 hb).1
      refine ⟨rfl, rfl, trivial, fun j => ?_⟩
      simp [AH.get, Tr.get_put (some o) 40 t nx j (by omega)]
  | fn f nx p =>
    simp only [Option.some.injEq, Prod.mk.injEq] at h
    obtain ⟨rfl, rfl⟩ := h
    exact ⟨rfl, rfl, trivial, fun j => rfl⟩

theorem AH.new_none {H H' : AH} {o : AO} {i : Nat} (h : H.new o = some (i, H')) : H.get i = none := by
  unfold AH.new at h
  cases H with
  | tr t nx =>
    simp only [] at h
    cases hb : (nx.blt 1000000000000 && (t.get nx).isNone) with
    | false => simp [hb] at h
    | true =>
      simp only [hb, cond_true, Option.some.injEq, Prod.mk.injEq] at h
      obtain ⟨rfl, rfl⟩ := h
      simpa [AH.get] using (Bool.and_eq_true_iff.1 hb).2
  | fn f nx p =>
    simp only [Option.some.injEq, Prod.mk.injEq] at h
    obtain ⟨rfl, rfl⟩ := h
    exact p _ (Nat.le_refl _)

/-! ### how abstract things lie in memory -/
structure KC where
  F : Nat → Nat → Option Value
  μ : Nat → Option (Nat × Nat)
  τ : Nat → Option (Nat × Nat × Nat × Nat)
  /-- cells of old blocks that may be known -/
  Z : Nat → Nat → Prop

structure KC.le (K K' : KC) : Prop where
  F : ∀ b o v, K.F b o = some v → K'.F b o = some v
  μ : ∀ i x, K.μ i = some x → K'.μ i = some x
  τ : ∀ i x, K.τ i = some x → K'.τ i = some x
  Z : K'.Z = K.Z

theorem KC.le.refl (K : KC) : K.le K := ⟨fun _ _ _ h => h, fun _ _ h => h, fun _ _ h => h, rfl⟩
theorem KC.le.trans {a b c : KC} (h : a.le b) (k : b.le c) : a.le c :=
  ⟨fun _ _ _ x => k.F _ _ _ (h.F _ _ _ x), fun _ _ x => k.μ _ _ (h.μ _ _ x), fun _ _ x => k.τ _ _ (h.τ _ _ x), k.Z.trans h.Z⟩

def TkR (K : KC) (tk : Tk) (b e z sz n c : Nat) : Prop :=
  match tk with
  | .nil => False
  | .full => n = c
  | .own t => K.τ t = some (b, e, z, sz)
  | .dead => True

inductive RV (K : KC) : AV → Value → Prop where
  | bool (b : Bool) : RV K (.bool b) (.bool b)
  | int (k : IntKind) (n : Int) : RV K (.int k n) (.int k n)
  | str (s : List UInt8) : RV K (.str s) (.string ⟨s.toArray⟩)
  | nilp : RV K .nilp (.pointer none)
  | ptr (i o b z : Nat) (h : K.μ i = some (b, z)) : RV K (.ptr i o) (.pointer (some ⟨b, o, none⟩))
  | vptr (row : List AV) (o b d : Nat) (cv : Nat → Value) (hF : ∀ (j : Nat) (a : AV), row[j]? = some a → K.F b (d + j) = some (cv j)) (hv : ∀ (j : Nat) (a : AV), row[j]? = some a → RV K a (cv j)) :
      RV K (.vptr row o) (.pointer (some ⟨b, d + o, none⟩))
  | slNil : RV K (.sl [] .nil) (.slice none 0 0)
  | slE (p : Addr) (tk : Tk) (ht : tk = .dead ∨ tk = .full) : RV K (.sl [] tk) (.slice (some p) 0 0)
  | sl (rows : List (List AV)) (tk : Tk) (b d c sz : Nat) (cv : Nat → Value) (h0 : 0 < sz) (hr : ∀ r, r ∈ rows → r.length = sz)
      (hF : ∀ (i : Nat) (r : List AV) (j : Nat) (a : AV), rows[i]? = some r → r[j]? = some a → K.F b (d + i * sz + j) = some (cv (i * sz + j)))
      (hv : ∀ (i : Nat) (r : List AV) (j : Nat) (a : AV), rows[i]? = some r → r[j]? = some a → RV K a (cv (i * sz + j)))
      (hc : rows.length ≤ c) (ht : TkR K tk b (d + rows.length * sz) (d + c * sz) sz rows.length c) :
      RV K (.sl rows tk) (.slice (some ⟨b, d, none⟩) rows.length c)
  | hsl (i o o' n c c' b z sz : Nat) (g : Bool) (h : K.μ i = some (b, z)) (hn : n ≤ c) (hc : c ≤ c') (hz : g = true → o + c' * sz ≤ z) (ho : o' = o ∨ c' = 0) :
      RV K (.hsl i o n c sz g) (.slice (some ⟨b, o', none⟩) n c')
  | mapNil : RV K (.map none) (.map none)
  | map (i b z : Nat) (h : K.μ i = some (b, z)) : RV K (.map (some i)) (.map (some b))
  | it (i b z : Nat) (h : K.μ i = some (b, z)) : RV K (.it i) (.pointer (some ⟨b, 0, none⟩))
  | fn (f : Fn) (a c : List AV) (a' c' : Array Value) (ha : a'.size = a.length) (hc : c'.size = c.length)
      (hav : ∀ (j : Nat) (x : AV) (v : Value), a[j]? = some x → a'[j]? = some v → RV K x v) (hcv : ∀ (j : Nat) (x : AV) (v : Value), c[j]? = some x → c'[j]? = some v → RV K x v) : RV K (.fn f a c) (.func f a' c')
  | nilfn : RV K .nilfn .nilFunc
  | iface (t : Nat) (v : AV) (v' : Value) (h : RV K v v') : RV K (.iface t v) (.iface t v')
  | nilif : RV K .nilif .nilIface
  | agg (cs : List AV) (cs' : Array Value) (h : cs'.size = cs.length) (hv : ∀ (j : Nat) (x : AV) (v : Value), cs[j]? = some x → cs'[j]? = some v → RV K x v) : RV K (.agg cs) (.agg cs')
  | tup (cs : List AV) (cs' : Array Value) (h : cs'.size = cs.length) (hv : ∀ (j : Nat) (x : AV) (v : Value), cs[j]? = some x → cs'[j]? = some v → RV K x v) : RV K (.tup cs) (.tuple cs')

theorem TkR.mono {K K' : KC} (h : K.le K') {tk : Tk} {b e z sz n c : Nat} (x : TkR K tk b e z sz n c) : TkR K' tk b e z sz n c := by
  cases tk <;> simp only [TkR] at * <;> first | exact x | exact h.τ _ _ x

theorem RV.mono {K K' : KC} (h : K.le K') {a : AV} {v : Value} (x : RV K a v) : RV K' a v := by
  induction x with
  | bool b => exact .bool b
  | int k n => exact .int k n
  | str s => exact .str s
  | nilp => exact .nilp
  | ptr i o b z hm => exact .ptr i o b z (h.μ _ _ hm)
  | vptr row o b d cv hF hv ih => exact .vptr row o b d cv (fun j a e => h.F _ _ _ (hF j a e)) ih
  | slNil => exact .slNil
  | slE p tk ht => exact .slE p tk ht
  | sl rows tk b d c sz cv h0 hr hF hv hc ht ih => exact .sl rows tk b d c sz cv h0 hr (fun i r j a e e' => h.F _ _ _ (hF i r j a e e')) ih hc (ht.mono h)
  | hsl i o o' n c c' b z sz g hm hn hc hz ho => exact .hsl i o o' n c c' b z sz g (h.μ _ _ hm) hn hc hz ho
  | mapNil => exact .mapNil
  | map i b z hm => exact .map i b z (h.μ _ _ hm)
  | it i b z hm => exact .it i b z (h.μ _ _ hm)
  | fn f a c a' c' ha hc hav hcv ih1 ih2 => exact .fn f a c a' c' ha hc ih1 ih2
  | nilfn => exact .nilfn
  | iface t v v' hx ih => exact .iface t v v' ih
  | nilif => exact .nilif
  | agg cs cs' hl hv ih => exact .agg cs cs' hl ih
  | tup cs cs' hl hv ih => exact .tup cs cs' hl ih

/-- lists of values -/
structure RL (K : KC) (cs : List AV) (vs : List Value) : Prop where
  len : vs.length = cs.length
  at_ : ∀ (j : Nat) (x : AV) (v : Value), cs[j]? = some x → vs[j]? = some v → RV K x v

theorem RL.mono {K K' : KC} (h : K.le K') {a : List AV} {v : List Value} (x : RL K a v) : RL K' a v := ⟨x.len, fun (j : Nat) (a : AV) (v : Value) e e' => (x.at_ j a v e e').mono h⟩
theorem RL.nil {K : KC} : RL K [] [] := ⟨rfl, fun (j : Nat) (x : AV) (v : Value) e _ => by simp at e⟩
theorem RL.cons {K : KC} {a : AV} {v : Value} {as : List AV} {vs : List Value} (h : RV K a v) (k : RL K as vs) : RL K (a :: as) (v :: vs) :=
  ⟨by simp [k.len], fun (j : Nat) (x : AV) (y : Value) e e' => by
    cases j with
    | zero => simp at e e'; subst e; subst e'; exact h
    | succ j => simp at e e'; exact k.at_ j x y e e'⟩
theorem RL.cons_inv {K : KC} {a : AV} {as : List AV} {vs : List Value} (h : RL K (a :: as) vs) : ∃ v vs', vs = v :: vs' ∧ RV K a v ∧ RL K as vs' := by
  cases vs with
  | nil => have := h.len; simp at this
  | cons v vs => exact ⟨v, vs, rfl, h.at_ 0 a v (by simp) (by simp), ⟨by have := h.len; simpa using this, fun (j : Nat) (x : AV) (y : Value) e e' => h.at_ (j + 1) x y (by simpa using e) (by simpa using e')⟩⟩
theorem RL.nil_inv {K : KC} {vs : List Value} (h : RL K [] vs) : vs = [] := by have := h.len; cases vs <;> simp_all
theorem RL.append {K : KC} {a b : List AV} {v w : List Value} (h : RL K a v) (k : RL K b w) : RL K (a ++ b) (v ++ w) :=
  ⟨by simp [h.len, k.len], fun (j : Nat) (x : AV) (y : Value) e e' => by
    rw [List.getElem?_append] at e e'
    rw [h.len] at e'
    split at e
    · rename_i hj; rw [if_pos hj] at e'; exact h.at_ j x y e e'
    · rename_i hj; rw [if_neg hj] at e'; exact k.at_ _ x y e e'⟩
theorem RL.take {K : KC} {a : List AV} {v : List Value} (h : RL K a v) (n : Nat) : RL K (a.take n) (v.take n) :=
  ⟨by simp [h.len], fun (j : Nat) (x : AV) (y : Value) e e' => by
    rw [List.getElem?_take] at e e'
    split at e
    · rename_i hj; rw [if_pos hj] at e'; exact h.at_ j x y e e'
    · simp at e⟩
theorem RL.drop {K : KC} {a : List AV} {v : List Value} (h : RL K a v) (n : Nat) : RL K (a.drop n) (v.drop n) :=
  ⟨by simp [h.len], fun (j : Nat) (x : AV) (y : Value) e e' => by
    rw [List.getElem?_drop] at e e'
    exact h.at_ _ x y e e'⟩
theorem RL.get {K : KC} {a : List AV} {v : List Value} (h : RL K a v) {j : Nat} {x : AV} (e : a[j]? = some x) : ∃ y, v[j]? = some y ∧ RV K x y := by
  have hj : j < a.length := by
    rcases Nat.lt_or_ge j a.length with h' | h'
    · exact h'
    · simp [List.getElem?_eq_none h'] at e
  have hj' : j < v.length := by rw [h.len]; exact hj
  exact ⟨v[j], List.getElem?_eq_getElem hj', h.at_ j x _ e (List.getElem?_eq_getElem hj')⟩

theorem RV.agg_inv {K : KC} {cs : List AV} {v : Value} (h : RV K (.agg cs) v) : ∃ vs : List Value, v = .agg vs.toArray ∧ RL K cs vs := by
  cases h with
  | agg cs cs' hl hv => exact ⟨cs'.toList, by simp, by simpa using hl, fun (j : Nat) (x : AV) (y : Value) e e' => hv j x y e (by simpa using e')⟩
theorem RV.tup_inv {K : KC} {cs : List AV} {v : Value} (h : RV K (.tup cs) v) : ∃ vs : List Value, v = .tuple vs.toArray ∧ RL K cs vs := by
  cases h with
  | tup cs cs' hl hv => exact ⟨cs'.toList, by simp, by simpa using hl, fun (j : Nat) (x : AV) (y : Value) e e' => hv j x y e (by simpa using e')⟩
theorem RL.agg {K : KC} {cs : List AV} {vs : List Value} (h : RL K cs vs) : RV K (.agg cs) (.agg vs.toArray) :=
  .agg cs _ (by simp [h.len]) (fun j x y e e' => h.at_ j x y e (by simpa using e'))
theorem RL.tup {K : KC} {cs : List AV} {vs : List Value} (h : RL K cs vs) : RV K (.tup cs) (.tuple vs.toArray) :=
  .tup cs _ (by simp [h.len]) (fun j x y e e' => h.at_ j x y e (by simpa using e'))
theorem RV.undef {K : KC} : RV K undef Go.undef := RL.nil.tup

theorem RV.cells {K : KC} {a : AV} {v : Value} (h : RV K a v) : RL K a.cells v.cells.toList := by
  cases h <;> first
    | exact .cons (by constructor <;> assumption) .nil
    | skip
  case agg cs cs' hl hv => exact ⟨by simpa [Value.cells, AV.cells] using hl, fun (j : Nat) (x : AV) (y : Value) e e' => hv j x y (by simpa [AV.cells] using e) (by simpa [Value.cells] using e')⟩

theorem RV.one_ {K : KC} {a : AV} {v : Value} (h : RV K a v) (ho : one a = true) : v.oneCell' = true := by
  cases h <;> first | rfl | simp [one] at ho
theorem RL.one_ {K : KC} {a : List AV} {v : List Value} (h : RL K a v) (ho : allOne a = true) : ∀ x ∈ v, x.oneCell' = true := by
  intro x hx
  obtain ⟨j, hj, rfl⟩ := List.mem_iff_getElem.1 hx
  have hj' : j < a.length := by rw [← h.len]; exact hj
  refine (h.at_ j a[j] v[j] (List.getElem?_eq_getElem hj') (List.getElem?_eq_getElem hj)).one_ ?_
  exact (List.all_eq_true.1 ho) _ (List.getElem_mem hj')

end Go.Aes
