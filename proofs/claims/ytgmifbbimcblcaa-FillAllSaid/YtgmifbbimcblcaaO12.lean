import Derived.Test.YtgmifbbimcblcaaO11
set_option linter.all false
set_option linter.unusedVariables false
set_option linter.unusedSimpArgs false
namespace Go.Aes
open Go.RowKit

section
variable {X : Cx} {P : Program} {K : KC} {B : Nat} {W w : World} {H H' : AH}

/-- an object that lay nowhere gets a block that is nobody's, and the block is written -/
theorem RW.rehome (h : RW B W K H w) {i b : Nat} {o : AO} (hg : H.get i = some o) (ho : o ≠ .tok) (hm : K.μ i = none) (hi : i < H.nx) (ob : Obj) (z : Nat)
    (hb : B ≤ b ∧ b < w.heap.size) (hno : ∀ j, own K H j ≠ some b) (hF : ∀ o, K.F b o = none)
    (hr : RO (K.setμ i (b, z)) { w with heap := w.heap.setIfInBounds b ob } i o) :
    RW B W (K.setμ i (b, z)) H { w with heap := w.heap.setIfInBounds b ob } := by
  have le := KC.le_setμ (K := K) (x := (b, z)) hm
  have μne : ∀ j, j ≠ i → (K.setμ i (b, z)).μ j = K.μ j := fun j hj => by simp [KC.setμ, hj]
  have ownne : ∀ j, j ≠ i → own (K.setμ i (b, z)) H j = own K H j := by
    intro j hj
    unfold own
    rw [μne j hj]
    rfl
  have owni : own (K.setμ i (b, z)) H i = some b := by
    refine own_of hg ?_
    cases o <;> first | exact absurd rfl ho | simp [plc, KC.setμ]
  have hblk : ∀ k, k ≠ b → (w.heap.setIfInBounds b ob)[k]? = w.heap[k]? := fun k hk => by
    rw [Array.getElem?_setIfInBounds_ne (Ne.symm hk)]
  refine ⟨h.below.trans ⟨rfl, rfl, rfl, by simp, fun k hk => hblk k (by omega)⟩, h.le, ?_, ?_, ?_, ?_, ?_, h.zz⟩
  · intro b' o1 v hf
    have hf' : K.F b' o1 = some v := hf
    have : b' ≠ b := fun e => by subst e; rw [hF] at hf'; cases hf'
    have h2 := h.fr b' o1 v hf'
    rw [← h2]
    exact World.cell?_of_block (hblk b' this)
  · intro j o1 hg1
    by_cases e : j = i
    · subst e
      rw [hg] at hg1
      injection hg1 with hg1
      subst hg1
      exact hr
    · refine (h.obj j o1 hg1).keep le (μne j e) rfl (fun b1 hb1 => ⟨hblk b1 fun e1 => ?_, fun _ => rfl⟩)
      subst e1
      exact hno j (own_of hg1 hb1)
  · intro j b1 hb1
    show B ≤ b1 ∧ b1 < (w.heap.setIfInBounds b ob).size
    rw [Array.size_setIfInBounds]
    by_cases e : j = i
    · subst e; rw [owni] at hb1; injection hb1 with hb1; subst hb1; exact hb
    · rw [ownne j e] at hb1; exact h.low j b1 hb1
  · intro j k b1 hj hk
    by_cases e : j = i
    · by_cases e' : k = i
      · rw [e, e']
      · exfalso
        subst e; rw [owni] at hj; injection hj with hj; subst hj
        rw [ownne k e'] at hk
        exact hno k hk
    · by_cases e' : k = i
      · exfalso
        subst e'; rw [owni] at hk; injection hk with hk; subst hk
        rw [ownne j e] at hj
        exact hno j hj
      · rw [ownne j e] at hj; rw [ownne k e'] at hk
        exact h.sep j k b1 hj hk
  · intro j hj
    rw [μne j (by omega)]
    exact h.fresh j hj

/-! ### the rows of a slice or a string, loaded -/
def lenV : Value → Option Nat
  | .slice _ n _ => some n
  | .string s => some s.size
  | _ => none

theorem firstCells_ok (hw : RW B W K H w) {n : Nat} {x : AV} {v : Value} {rows : List (List AV)} (h : readRows n x H = some rows) (hv : RV K x v) (hn : 0 < n) :
    (∀ r, r ∈ rows → r.length = n) ∧ (∀ w', (Builtin.lenOf v).run P w' = .ok rows.length w') ∧
      ∃ vs : List Value, RL K rows.flatten vs ∧ ∀ w', (∀ a, w'.cell? a = w.cell? a) → (Builtin.firstCells n rows.length v).run P w' = .ok vs.toArray w' := by
  obtain ⟨h1, h2⟩ := hw.rowsRead h hv hn
  refine ⟨h1, ?_⟩
  rcases h2 with ⟨rfl, ad, c, rfl⟩ | ⟨b, d, c, rfl, hrd⟩ | ⟨s, hs, rfl, hrows⟩
  · refine ⟨fun w' => rfl, [], .nil, fun w' _ => ?_⟩
    cases ad with
    | none => rfl
    | some ad => simp [Builtin.firstCells, loadCells, loadCellsFrom]
  · refine ⟨fun w' => rfl, ?_⟩
    obtain ⟨vs, k1, k2⟩ := hrd.cells
    refine ⟨vs, k1, fun w' hw' => ?_⟩
    have hl : rows.length * n = vs.length := by rw [k1.len, flatten_len h1]
    simp only [Builtin.firstCells, hl]
    exact run_loadCells_list (P := P) w' ⟨b, d, none⟩ vs (fun j v e => by rw [add_plain, hw']; exact k2 j v e)
  · subst hrows
    have hsz : (⟨s.toArray⟩ : ByteArray).size = s.length := by simp [ByteArray.size]
    refine ⟨fun w' => by simp [Builtin.lenOf, hsz], s.map fun c => .int .u8 c.toNat, ?_, fun w' _ => ?_⟩
    · have hfl : (s.map fun c => [AV.int .u8 c.toNat]).flatten = s.map fun c => AV.int .u8 c.toNat := by
        clear hsz h h1 hv
        induction s with
        | nil => rfl
        | cons c s ih => simp [ih]
      rw [hfl]
      refine ⟨by simp, fun j x y e e' => ?_⟩
      simp at e e'
      obtain ⟨c, hc, rfl⟩ := e
      obtain ⟨c', hc', rfl⟩ := e'
      rw [hc] at hc'
      injection hc' with hc'
      subst hc'
      exact .int _ _
    · simp only [Builtin.firstCells, List.length_map, Sem.run_pure]
      congr 1
      apply Array.ext'
      simp [ByteArray.data_extract]

theorem growBy_le (nl : Nat) : ∀ (r c M : Nat), c ≤ M → (∀ x, x < nl → x + (x + 768) / 4 ≤ M) → Builtin.growBy nl r c ≤ M
  | 0, c, M, h, _ => h
  | r + 1, c, M, h, hx => by
    simp only [Builtin.growBy]
    split
    · exact h
    · exact growBy_le nl r _ M (hx c (by omega)) hx

theorem nextcap_le (need cap : Nat) (h : cap < need) : Builtin.nextslicecap need cap ≤ 2 * need + 768 := by
  unfold Builtin.nextslicecap
  split
  · omega
  · split
    · omega
    · exact growBy_le need 4 cap _ (by omega) (fun x hx => by omega)

/-- what append does where it must move -/
theorem run_append_move (ok : CxOk X P) {st xt ty e n b L m cap : Nat} {d : TypeDesc} {base : Option Addr} {vx : Value} {old new : List Value} {z : List AV}
    (hu : X.und st = some (.slice e)) (hs : X.size e = some n) (hb : X.bytes e = some b) (hz : X.zero e = some z) (hzl : z.length = n) (hx : X.und xt = some d) (hd : ∀ k, d ≠ .int k)
    (hlen : ∀ w', (Builtin.lenOf vx).run P w' = .ok m w') (hold : ∀ w', (∀ a, w'.cell? a = w.cell? a) → (Builtin.firstCells n L (.slice base L cap)).run P w' = .ok old.toArray w')
    (hnew : ∀ w', (∀ a, w'.cell? a = w.cell? a) → (Builtin.firstCells n m vx).run P w' = .ok new.toArray w') (hbig : (L + m) * (b + 1) < most) (hb5 : b ≤ 100000) (hmove : cap < L + m) :
    ∃ (newCap : Nat) (rest : Array Value), L + m ≤ newCap ∧ rest.size = (newCap - (L + m)) * n ∧
      (Builtin.append_ #[st, xt] ty #[.slice base L cap, vx]).run P w = .ok (.slice (some ⟨w.heap.size, 0, none⟩) (L + m) newCap) (w.drew.alloc (.cells (old.toArray ++ new.toArray ++ rest) e)) := by
  have hm : most = 100000000000000 := rfl
  obtain ⟨ib, hib, hbb⟩ := ok.bytes e b hb
  obtain ⟨zv, a, ho, hc, hzr, _⟩ := ok.run_zero hz
  have hzs : zv.cells.size = n := by
    have := (ofV_spec (K := ⟨fun _ _ => none, fun _ => none, fun _ => none, fun _ _ => True⟩) ho).cells.len
    simp at this
    rw [hc] at this
    omega
  have hq : Question.forced (.appendCap (L + m) cap e) = false := rfl
  refine ⟨Question.cut (.appendCap (L + m) cap e) (w.tape w.drawn (.appendCap (L + m) cap e)), Builtin.zeroCells zv.cells (Question.cut (.appendCap (L + m) cap e) (w.tape w.drawn (.appendCap (L + m) cap e)) - (L + m)), ?_, ?_, ?_⟩
  · show L + m ≤ L + m + _
    omega
  · simp [Builtin.zeroCells, hzs]
  · have hne : ∀ w', (typeInfo e).run P w' = .ok ib w' := fun w' => CxOk.run_info hib w'
    have hbytes : Builtin.nextslicecap (L + m) cap * b ≤ 2 ^ 48 := by
      have h1 := nextcap_le (L + m) cap hmove
      have h2 : Builtin.nextslicecap (L + m) cap * b ≤ (2 * (L + m) + 768) * b := Nat.mul_le_mul_right b h1
      have h3 : (2 * (L + m) + 768) * b = 2 * ((L + m) * b) + 768 * b := by rw [Nat.add_mul, Nat.mul_assoc]
      have h4 : (L + m) * b ≤ (L + m) * (b + 1) := Nat.mul_le_mul_left _ (by omega)
      omega
    have hmt : (match d with | TypeDesc.int k => true | _ => false) = false := by cases d <;> first | rfl | exact absurd rfl (hd _)
    have hin : (L + m : Nat) ≤ 100000000000000 := by
      have : (L + m) * 1 ≤ (L + m) * (b + 1) := Nat.mul_le_mul_left _ (by omega)
      omega
    have h64 : IntKind.i64.max = 9223372036854775807 := rfl
    simp only [Builtin.append_, List.getElem?_toArray, List.getElem?_cons_zero, List.getElem?_cons_succ, Sem.run_bind, ok.run_und hu, Result.andThen_ok, ok.run_size hs, ok.run_und hx, Sem.run_pure, hmt, Bool.false_eq_true, if_false, hlen,
      Bool.not_false, if_true]
    rw [if_neg (by omega : ¬ L + m ≤ cap)]
    simp only [Sem.run_bind, hne, Result.andThen_ok, hbb, false_or]
    rw [if_neg (by rw [h64]; intro h; omega)]
    simp only [Sem.run_bind, hne, Result.andThen_ok, hbb]
    rw [if_neg (by omega)]
    simp only [Sem.run_bind, run_choose, hq, Bool.false_eq_true, if_false, Result.andThen_ok, run_askRoom, hne, World.drew_eq]
    rw [hold w.drew (fun a => rfl)]
    simp only [Result.andThen_ok]
    rw [hnew w.drew (fun a => rfl)]
    simp only [Result.andThen_ok, hzr, Sem.run_bind, run_newRow, Sem.run_pure]
    rfl

end
end Go.Aes
