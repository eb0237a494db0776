import Derived.Test.YtphgikpdbaeeoaaDoorRxD
import Derived.Test.YtphgikpdbaeeoaaDoorS15
import Derived.Test.YtphgikpdbaeeoaaDoorRows
set_option linter.all false
set_option linter.unusedVariables false
set_option linter.unusedSimpArgs false
set_option maxRecDepth 100000
namespace T
open Go Go.Aes Go.Proofs Go.Proofs.YtphgikpdbaeeoaaDoor

section
variable {H : Type} {enc : TypeId × Value → H} {w : World} {base : Nat} {spare : Nat → Bool} {held : Bool}

theorem arg_str {n : Nat} {cs : List Value} {x : DataW H × List MemPlace} (h : DataW.trod enc Tryd.prog w base spare held n 9 cs = some x) : ∃ s : Str, RL (K0 w) [.str s] cs ∧ s.length + 1 ≤ Rows.uptoBulk x.1 := by
  obtain ⟨s, rfl, rfl, _⟩ := DataW.trod_string Tryd.underlying9 h
  refine ⟨s.data.toList, RL.one ?_, by simp [Rows.uptoBulk]⟩
  have := RV.str (K := K0 w) s.data.toList
  simpa using this
theorem arg_int {n : Nat} {cs : List Value} {x : DataW H × List MemPlace} (h : DataW.trod enc Tryd.prog w base spare held n 3 cs = some x) : ∃ k : Int, RL (K0 w) [.int .i64 k] cs := by
  obtain ⟨k, rfl, _, _⟩ := DataW.trod_int Tryd.underlying3 h
  exact ⟨k, RL.one (.int _ _)⟩

theorem strs_of : ∀ {ds : List (DataW H)} {rows : List (List AV)}, rows.length = ds.length → (∀ (i : Nat) (d : DataW H) (r : List AV), ds[i]? = some d → rows[i]? = some r → ∃ s : Str, r = [.str s] ∧ s.length + 1 ≤ Rows.uptoBulk d) →
    ∃ l, rows = strRows l ∧ nsb l ≤ Rows.uptoBulkAll ds
  | [], rows, hl, hq => by
    obtain rfl := List.eq_nil_of_length_eq_zero hl
    exact ⟨[], rfl, by simp [nsb]⟩
  | d :: ds, [], hl, hq => by simp at hl
  | d :: ds, r :: rs, hl, hq => by
    obtain ⟨v, h1, h2⟩ := hq 0 d r rfl rfl
    obtain ⟨l, h3, h4⟩ := strs_of (ds := ds) (rows := rs) (by simpa using hl) (fun i d r a b => hq (i + 1) d r a b)
    exact ⟨v :: l, by rw [h1, h3]; rfl, by simp only [nsb, Rows.uptoBulkAll]; omega⟩
theorem vals_of : ∀ {ds : List (DataW H)} {rows : List (List AV)}, rows.length = ds.length → (∀ (i : Nat) (d : DataW H) (r : List AV), ds[i]? = some d → rows[i]? = some r → ∃ v, EV v r ∧ bv v ≤ Rows.uptoBulk d) →
    ∃ l, EVs l rows ∧ bvs l ≤ Rows.uptoBulkAll ds
  | [], rows, hl, hq => by
    obtain rfl := List.eq_nil_of_length_eq_zero hl
    exact ⟨[], rfl, by simp [bvs]⟩
  | d :: ds, [], hl, hq => by simp at hl
  | d :: ds, r :: rs, hl, hq => by
    obtain ⟨v, h1, h2⟩ := hq 0 d r rfl rfl
    obtain ⟨l, h3, h4⟩ := vals_of (ds := ds) (rows := rs) (by simpa using hl) (fun i d r a b => hq (i + 1) d r a b)
    exact ⟨v :: l, ⟨r, rs, rfl, h1, h3⟩, by simp only [bvs, Rows.uptoBulkAll]; omega⟩
theorem bulk_of {x : DataW H} {ds : List (DataW H)} (h : x = .nil ∧ ds = [] ∨ ∃ l2, x = .slice ds l2) : Rows.uptoBulkAll ds + 1 ≤ Rows.uptoBulk x := by
  rcases h with ⟨rfl, rfl⟩ | ⟨l2, rfl⟩
  · simp [Rows.uptoBulk, Rows.uptoBulkAll]
  · simp only [Rows.uptoBulk]
    omega

theorem arg_val (hs : ∀ b, spare b = true) : ∀ (k n : Nat) (cs : List Value) (x : DataW H × List MemPlace), SizeOf.sizeOf x.1 < k → DataW.trod enc Tryd.prog w base spare held n 25 cs = some x → ∃ v r, (EV v r ∧ bv v ≤ Rows.uptoBulk x.1) ∧ RL (K0 w) r cs := by
  intro k
  induction k with
  | zero => intro n cs x h; omega
  | succ k ih =>
    intro n cs x hk h
    obtain ⟨xs, m, rfl, rfl, hl, hxs, hf⟩ := DataW.trod_struct Tryd.underlying25 h
    have hl4 : cs.length = 4 := by rw [hl]; kernel_rfl
    match cs, hl4, xs, hxs with
    | [c0, c1, c2, c3], _, [y0, y1, y2, y3], _ =>
      have f0 := hf 0 _ rfl
      have f1 := hf 1 _ rfl
      have f2 := hf 2 _ rfl
      have f3 := hf 3 _ rfl
      have z1 : Tryd.prog.cellsOf 3 = 1 := by kernel_rfl
      have z2 : Tryd.prog.cellsOf 9 = 1 := by kernel_rfl
      have z3 : Tryd.prog.cellsOf 22 = 1 := by kernel_rfl
      have z4 : Tryd.prog.cellsOf 23 = 1 := by kernel_rfl
      simp only [z1, z2, z3, z4, List.drop_zero, List.drop_succ_cons, List.take_succ_cons, List.take_zero, List.getElem?_cons_zero, List.getElem?_cons_succ] at f0 f1 f2 f3
      obtain ⟨i0, g0⟩ := arg_int f0
      obtain ⟨s1, g1, b1⟩ := arg_str f1
      obtain ⟨rows2, t2, v2, ds2, e2, d2, l2, q2, g2⟩ := arg_slice (fun d r => ∃ s : Str, r = [.str s] ∧ s.length + 1 ≤ Rows.uptoBulk d) Tryd.underlying22 (by rw [z2]; omega) hs f2 (fun n cs' y _ hy => by
        obtain ⟨s, hs, hb⟩ := arg_str hy
        exact ⟨_, ⟨s, rfl, hb⟩, hs⟩)
      have hsz : SizeOf.sizeOf y3.1 < k := by
        simp at hk
        omega
      obtain ⟨rows3, t3, v3, ds3, e3, d3, l3, q3, g3⟩ := arg_slice (fun d r => ∃ v, EV v r ∧ bv v ≤ Rows.uptoBulk d) Tryd.underlying23 (by rw [show Tryd.prog.cellsOf 25 = 4 by kernel_rfl]; omega) hs f3 (fun n cs' y hy0 hy => by
        obtain ⟨v, r, h1, h2⟩ := ih n cs' y (by omega) hy
        exact ⟨r, ⟨v, h1⟩, h2⟩)
      obtain rfl : c2 = v2 := by injection e2
      obtain rfl : c3 = v3 := by injection e3
      obtain ⟨ns, rfl, b2⟩ := strs_of l2 q2
      obtain ⟨l, hl2, b3⟩ := vals_of l3 q3
      have b4 := bulk_of d2
      have b5 := bulk_of d3
      refine ⟨.mk i0 s1 ns l, [.int .i64 i0, .str s1, .sl (strRows ns) t2, .sl rows3 t3], ⟨⟨t2, t3, rows3, rfl, hl2⟩, by simp only [bv, Rows.uptoBulk, List.map_cons, List.map_nil, Rows.uptoBulkAll]; omega⟩, ?_⟩
      exact RL.cons (g0.at_ 0 _ _ rfl rfl) (.cons (g1.at_ 0 _ _ rfl rfl) (.cons g2 (.cons g3 .nil)))
open Go.RowKit Go.WideShapes Go.ChangeShapes in
theorem arg_value {v : Value} {d : DataW H} {ps : List MemPlace} (hs : ∀ b, spare b = true) {cs : List Value} {d : DataW H} {n : Nat} {m : List MemPlace} (hd : DataW.trod enc Tryd.prog w base spare held n 25 cs = some (d, m)) :
    ∃ (v : Val) (r : List AV), EV v r ∧ bv v ≤ Rows.uptoBulk d ∧ RL (K0 w) r cs := by
  obtain ⟨v, r, ⟨h1, h2⟩, h3⟩ := arg_val hs _ n cs (d, m) (Nat.lt_succ_self _) hd
  exact ⟨v, r, h1, h2, h3⟩
end
end T
