import Derived.Test.YtnmljkjdflfdoaaDoorS12
set_option linter.all false
set_option linter.unusedVariables false
set_option linter.unusedSimpArgs false
namespace Go.Aes

/-! ### heaps that are functions, found by themselves -/
class IsFn (H : AH) : Prop where
  fn : Fn H
instance IsFn.zero : IsFn H0 := ⟨Fn.H0⟩
instance IsFn.push {H : AH} [h : IsFn H] (o : AO) : IsFn (H.push o) := ⟨h.fn.push o⟩
instance IsFn.set {H : AH} [h : IsFn H] (i : Nat) (o : Option AO) : IsFn (H.set i o) := ⟨h.fn.set i o⟩

section
variable {R : Type} [Mon R] {H : AH} [hf : IsFn H]

theorem new_i (o : AO) : H.new o = some (H.nx, H.push o) := hf.fn.new o
theorem qNew_i (o : AO) (w : Wr) (k : AV → AH → R) : qNew o w H k = k (w.mk H.nx) (H.push o) := qNew_fn hf.fn o w k
theorem qBox_i (v : AV) (k : AV → AH → R) : qBox v H k = bif allOne v.cells then k (.ptr H.nx 0) (H.push (.cells v.cells)) else fail := by
  unfold qBox
  rw [qNew_i]; rfl
theorem get_push_i (o : AO) (j : Nat) : (H.push o).get j = if j = H.nx then some o else H.get j := hf.fn.get_push o j
theorem get_push_at (o : AO) : (H.push o).get H.nx = some o := by rw [get_push_i, if_pos rfl]
theorem get_push_lt (o : AO) {j : Nat} (h : j < H.nx) : (H.push o).get j = H.get j := by rw [get_push_i, if_neg (by omega)]
theorem nx_push_i (o : AO) : (H.push o).nx = H.nx + 1 := hf.fn.nx_push o
theorem get_set_i {i : Nat} (hi : i < H.nx) (o : Option AO) (j : Nat) : (H.set i o).get j = if j = i then o else H.get j := hf.fn.get_set hi o j
theorem okI_i {i : Nat} (h : i < H.nx) : H.okI i = true := hf.fn.okI' h
theorem lt_i {i : Nat} {o : AO} (h : H.get i = some o) : i < H.nx := hf.fn.lt h
end

theorem wr_ptr (i : Nat) : Wr.ptr.mk i = .ptr i 0 := rfl
theorem wr_map (i : Nat) : Wr.map.mk i = .map (some i) := rfl
theorem wr_it (i : Nat) : Wr.it.mk i = .it i := rfl
theorem wr_hsl (n sz i : Nat) : (Wr.hsl n sz).mk i = .hsl i 0 n n sz true := rfl

/-! ### cells, put and read -/
theorem cells_agg (l : List AV) : (AV.agg l).cells = l := rfl
theorem cells_bool (b : Bool) : (AV.bool b).cells = [.bool b] := rfl
theorem cells_int (k : IntKind) (n : Int) : (AV.int k n).cells = [.int k n] := rfl
theorem cells_str (s : List UInt8) : (AV.str s).cells = [.str s] := rfl
theorem cells_sl (r : List (List AV)) (t : Tk) : (AV.sl r t).cells = [.sl r t] := rfl
theorem cells_ptr (i o : Nat) : (AV.ptr i o).cells = [.ptr i o] := rfl
theorem cells_nilp : AV.nilp.cells = [.nilp] := rfl
theorem cells_hsl (i o n c s : Nat) (g : Bool) : (AV.hsl i o n c s g).cells = [.hsl i o n c s g] := rfl
theorem cells_map (r : Option Nat) : (AV.map r).cells = [.map r] := rfl
theorem cells_fn (f : Go.Fn) (a b : List AV) : (AV.fn f a b).cells = [.fn f a b] := rfl

theorem allOne_nil : allOne [] = true := rfl
theorem allOne_cons (a : AV) (l : List AV) : allOne (a :: l) = (one a && allOne l) := rfl

theorem setRange_nil (l : List AV) : setRange l 0 [] = some l := by
  have : Nat.ble 0 l.length = true := by simp
  simp [setRange, this]
theorem setRange_z (a v : AV) (l vs : List AV) : setRange (a :: l) 0 (v :: vs) = (setRange l 0 vs).map (v :: ·) := by
  simp only [setRange, List.length_cons, Nat.zero_add, List.take_zero, List.nil_append, List.drop_succ_cons]
  have : (vs.length + 1).ble (l.length + 1) = vs.length.ble l.length := rfl
  rw [this]
  cases vs.length.ble l.length <;> rfl
theorem setRange_s (a : AV) (l vs : List AV) (o : Nat) : setRange (a :: l) (o + 1) vs = (setRange l o vs).map (a :: ·) := by
  simp only [setRange, List.length_cons, List.take_succ_cons]
  have : (o + 1 + vs.length).ble (l.length + 1) = (o + vs.length).ble l.length := by
    rw [show o + 1 + vs.length = (o + vs.length) + 1 by omega]; rfl
  rw [this, show o + 1 + vs.length = (o + vs.length) + 1 by omega, List.drop_succ_cons]
  cases (o + vs.length).ble l.length <;> simp

theorem slice_z (l : List AV) : slice? l 0 0 = some [] := by simp [slice?]
theorem slice_c (a : AV) (l : List AV) (n : Nat) : slice? (a :: l) 0 (n + 1) = (slice? l 0 n).map (a :: ·) := by
  simp only [slice?, List.drop_zero, List.take_succ_cons, List.length_cons]
  have : ((l.take n).length + 1).beq (n + 1) = (l.take n).length.beq n := rfl
  rw [this]
  cases (l.take n).length.beq n <;> rfl
theorem slice_s (a : AV) (l : List AV) (o n : Nat) : slice? (a :: l) (o + 1) n = slice? l o n := by simp only [slice?, List.drop_succ_cons]

theorem fillP_nil (cs : List AV) : fillP cs [] = some cs := rfl
theorem fillP_cons (cs : List AV) (o n : Nat) (v : AV) (r : List (Nat × Nat × AV)) : fillP cs ((o, n, v) :: r) = bif v.cells.length.beq n && allOne v.cells then (setRange cs o v.cells).bind (fillP · r) else none := by
  simp only [fillP]
  cases (v.cells.length.beq n && allOne v.cells) with
  | false => rfl
  | true => simp only [cond_true]; cases setRange cs o v.cells <;> rfl

section
variable {R : Type} [Mon R]
theorem qBld_eq (z : List AV) (l : List (Nat × Nat × AV)) (k : AV → R) : qBld z l k = qO (fillP z l) fun cs => k (.agg cs) := rfl
theorem qSt_ptr (n i o : Nat) (v : AV) (H : AH) (k : AV → AH → R) : qSt n (.ptr i o) v H k =
    bif v.cells.length.beq n && allOne v.cells && H.okI i then stK (H.get i) o v.cells fun ob => k undef (H.set i (some ob)) else fail := rfl
theorem qPtr_ptr (i o : Nat) (k : R) : qPtr (.ptr i o) k = k := rfl

theorem putRow_nil (z : List AV) (rows : List (List AV)) : putRow z rows [] = some rows := rfl
theorem putRow_one (z : List AV) (v : AV) : putRow z [z] [(0, v)] = bif v.cells.length.beq z.length && allOne v.cells then some [v.cells] else none := by
  simp only [putRow]
  have : (0 : Nat).blt [z].length = true := rfl
  rw [this]
  cases (v.cells.length.beq z.length && allOne v.cells) <;> rfl
theorem qRows_eq (z : List AV) (n : Nat) (l : List (Nat × AV)) (k : AV → R) : qRows z n l k = qO (putRow z (List.replicate n z) l) fun rows => k (.sl rows .full) := rfl
theorem rep_zero (z : List AV) : List.replicate 0 z = [] := rfl
theorem rep_succ (n : Nat) (z : List AV) : List.replicate (n + 1) z = z :: List.replicate n z := rfl

/-- one more row of a slice that is held in the hand, in a new place -/
theorem app_new {H : AH} [IsFn H] {n b : Nat} {rows : List (List AV)} {tk tk' : Tk} {r : List AV} (hr : r.length = n) (hn : 0 < n) (hb : b ≤ 100000) (hl : (rows.length + 1) * (b + 1) < most)
    (hrs : ∀ x ∈ rows, x.length = n) (ht : tk = .nil ∨ tk = .full) : app n b (.sl rows tk) (.sl [r] tk') false none H = some (.sl (rows ++ [r]) (.own H.nx), H.push .tok) := by
  unfold app
  have h1 : readRows n (.sl [r] tk') H = some [r] := by simp [readRows, hr]
  rw [h1]
  have h2 : (n.beq 0 || !b.ble 100000) = false := by
    have : b.ble 100000 = true := by simpa using hb
    rw [this]
    have : n.beq 0 = false := by cases n with
      | zero => omega
      | succ n => rfl
    rw [this]; rfl
  have h3 : (!((rows.length + [r].length) * (b + 1)).blt most || !rows.all (fun r => r.length.beq n)) = false := by
    have a1 : ((rows.length + [r].length) * (b + 1)).blt most = true := by rw [Nat.blt_eq]; exact hl
    have a2 : rows.all (fun r => r.length.beq n) = true := by
      rw [List.all_eq_true]; intro x hx; rw [hrs x hx]; simp
    rw [a1, a2]; rfl
  simp only [h2, h3, cond_false]
  rcases ht with rfl | rfl <;> simp [new_i]

theorem app_own {H : AH} [IsFn H] {n b t : Nat} {rows : List (List AV)} {tk' : Tk} {r : List AV} (hr : r.length = n) (hn : 0 < n) (hb : b ≤ 100000) (hl : (rows.length + 1) * (b + 1) < most)
    (hrs : ∀ x ∈ rows, x.length = n) (hne : rows ≠ []) (ha : allOne r = true) (ht : H.get t = some .tok) :
    app n b (.sl rows (.own t)) (.sl [r] tk') false none H = some (.sl (rows ++ [r]) (.own H.nx), (H.set t none).push .tok) := by
  unfold app
  have h1 : readRows n (.sl [r] tk') H = some [r] := by simp [readRows, hr]
  rw [h1]
  have h2 : (n.beq 0 || !b.ble 100000) = false := by
    have : b.ble 100000 = true := by simpa using hb
    rw [this]
    have : n.beq 0 = false := by cases n with
      | zero => omega
      | succ n => rfl
    rw [this]; rfl
  have h3 : (!((rows.length + [r].length) * (b + 1)).blt most || !rows.all (fun r => r.length.beq n)) = false := by
    have a1 : ((rows.length + [r].length) * (b + 1)).blt most = true := by rw [Nat.blt_eq]; exact hl
    have a2 : rows.all (fun r => r.length.beq n) = true := by
      rw [List.all_eq_true]; intro x hx; rw [hrs x hx]; simp
    rw [a1, a2]; rfl
  have h4 : (false || !H.okI t || rows.isEmpty || !allOne [r].flatten) = false := by
    rw [okI_i (lt_i ht)]
    have : rows.isEmpty = false := by cases rows with
      | nil => exact absurd rfl hne
      | cons a l => rfl
    rw [this]
    have : [r].flatten = r := by simp
    rw [this, ha]; rfl
  simp only [h2, h3, cond_false, ht, h4, new_i, AH.nx_set]

end

/-! ### a slice that is appended to -/
/-- nothing yet, or with a token -/
def Ow (H : AH) (v : AV) (rows : List (List AV)) : Prop := (v = .sl [] .nil ∧ rows = []) ∨ (rows ≠ [] ∧ ∃ t, v = .sl rows (.own t) ∧ H.get t = some .tok)
def tkOf (v : AV) (j : Nat) : Prop := ∃ rows, v = .sl rows (.own j)

theorem Ow.nil {H : AH} : Ow H (.sl [] .nil) [] := .inl ⟨rfl, rfl⟩
theorem Ow.sl {H : AH} {v : AV} {rows : List (List AV)} (h : Ow H v rows) : ∃ tk, v = .sl rows tk := by
  rcases h with ⟨rfl, rfl⟩ | ⟨_, t, rfl, _⟩
  · exact ⟨_, rfl⟩
  · exact ⟨_, rfl⟩
theorem Ow.one {H : AH} {v : AV} {rows : List (List AV)} (h : Ow H v rows) : one v = true := by
  obtain ⟨tk, rfl⟩ := h.sl; rfl
theorem Ow.cells {H : AH} {v : AV} {rows : List (List AV)} (h : Ow H v rows) : v.cells = [v] := by
  obtain ⟨tk, rfl⟩ := h.sl; rfl
theorem Ow.tok {H : AH} {v : AV} {rows : List (List AV)} (h : Ow H v rows) {j : Nat} (hj : tkOf v j) : H.get j = some .tok := by
  obtain ⟨r, hj⟩ := hj
  rcases h with ⟨rfl, rfl⟩ | ⟨_, t, rfl, h⟩
  · injection hj with _ hj; cases hj
  · injection hj with _ hj; injection hj with hj; subst hj; exact h
theorem Ow.keep {H H' : AH} {v : AV} {rows : List (List AV)} (h : Ow H v rows) (k : ∀ j, tkOf v j → H'.get j = H.get j) : Ow H' v rows := by
  rcases h with ⟨rfl, rfl⟩ | ⟨h1, t, rfl, h⟩
  · exact .nil
  · exact .inr ⟨h1, t, rfl, (k t ⟨_, rfl⟩).trans h⟩

/-- what a step left as it was -/
structure Kp (H H' : AH) (P : Nat → Prop) : Prop where
  fn : IsFn H'
  nx : H.nx ≤ H'.nx
  keep : ∀ j, j < H.nx → ¬ P j → H'.get j = H.get j

theorem Kp.refl {H : AH} [h : IsFn H] (P : Nat → Prop) : Kp H H P := ⟨h, Nat.le_refl _, fun _ _ _ => rfl⟩
theorem Kp.trans {H H1 H2 : AH} {P Q : Nat → Prop} (h : Kp H H1 P) (k : Kp H1 H2 Q) (hq : ∀ j, j < H.nx → Q j → P j) : Kp H H2 P :=
  ⟨k.fn, Nat.le_trans h.nx k.nx, fun j hj hp => (k.keep j (Nat.lt_of_lt_of_le hj h.nx) (fun q => hp (hq j hj q))).trans (h.keep j hj hp)⟩
theorem Kp.mono {H H1 : AH} {P Q : Nat → Prop} (h : Kp H H1 P) (hq : ∀ j, j < H.nx → P j → Q j) : Kp H H1 Q := ⟨h.fn, h.nx, fun j hj hn => h.keep j hj fun p => hn (hq j hj p)⟩
theorem Kp.push {H : AH} [IsFn H] (o : AO) (P : Nat → Prop) : Kp H (H.push o) P := ⟨inferInstance, by rw [nx_push_i]; omega, fun j hj _ => by rw [get_push_lt _ hj]⟩
theorem Kp.set {H : AH} [IsFn H] {i : Nat} (o : Option AO) (hi : i < H.nx) : Kp H (H.set i o) (· = i) := ⟨inferInstance, by rw [AH.nx_set]; omega, fun j hj hp => by rw [get_set_i hi, if_neg hp]⟩

/-- one more -/
theorem Ow.app {H : AH} [IsFn H] {v : AV} {rows : List (List AV)} (h : Ow H v rows) {n b : Nat} {tk' : Tk} {r : List AV} (hr : r.length = n) (hn : 0 < n) (hb : b ≤ 100000) (hl : (rows.length + 1) * (b + 1) < most)
    (hrs : ∀ x ∈ rows, x.length = n) (ha : allOne r = true) :
    ∃ v' H', (∀ k : AV → AH → Prop, qApp n b v (.sl [r] tk') false none H k = k v' H') ∧ Ow H' v' (rows ++ [r]) ∧ Kp H H' (tkOf v) ∧ (∀ j, tkOf v' j → j = H.nx) := by
  rcases h with ⟨rfl, rfl⟩ | ⟨hne, t, rfl, ht⟩
  · refine ⟨_, _, fun k => ?_, .inr ⟨by simp, H.nx, rfl, get_push_at _⟩, Kp.push _ _, fun j hj => ?_⟩
    · unfold qApp
      rw [app_new hr hn hb hl hrs (.inl rfl)]
      exact qHp_some _ _ _
    · obtain ⟨x, hx⟩ := hj; injection hx with _ hx; injection hx with hx; exact hx.symm
  · have htl := lt_i ht
    refine ⟨_, (H.set t none).push .tok, fun k => ?_, .inr ⟨by simp, H.nx, rfl, ?_⟩, ?_, fun j hj => ?_⟩
    · unfold qApp
      rw [app_own hr hn hb hl hrs hne ha ht]
      exact qHp_some _ _ _
    · have := get_push_at (H := H.set t none) .tok
      rwa [AH.nx_set] at this
    · exact (Kp.set none htl).trans (Kp.push _ (fun _ => False)) (fun _ _ h => h.elim) |>.mono (fun j _ e => ⟨rows, by rw [e]⟩)
    · obtain ⟨x, hx⟩ := hj; injection hx with _ hx; injection hx with hx; exact hx.symm
end Go.Aes
