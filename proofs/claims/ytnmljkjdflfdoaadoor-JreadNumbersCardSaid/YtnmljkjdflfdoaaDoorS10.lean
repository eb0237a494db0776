import Derived.Test.YtnmljkjdflfdoaaDoorS9
import Derived.IntWalk
set_option linter.all false
set_option linter.unusedVariables false
set_option linter.unusedSimpArgs false
namespace Go.Aes
open Go.RowKit

/-! ### heaps that are functions -/
def Fn (H : AH) : Prop := ∃ h nx p, H = .fn h nx p
theorem Fn.H0 : Fn H0 := ⟨_, _, _, rfl⟩

/-- one thing more -/
def AH.push (H : AH) (o : AO) : AH :=
  match H with
  | .tr h nx => .tr h nx
  | .fn h nx p => .fn (fun j => if j = nx then some o else h j) (nx + 1) (fn_new p)

theorem Fn.set {H : AH} (h : Fn H) (i : Nat) (o : Option AO) : Fn (H.set i o) := by
  obtain ⟨f, nx, p, rfl⟩ := h
  unfold AH.set
  simp only []
  split <;> exact ⟨_, _, _, rfl⟩
theorem Fn.push {H : AH} (h : Fn H) (o : AO) : Fn (H.push o) := by
  obtain ⟨f, nx, p, rfl⟩ := h
  exact ⟨_, _, _, rfl⟩
theorem Fn.new {H : AH} (h : Fn H) (o : AO) : H.new o = some (H.nx, H.push o) := by
  obtain ⟨f, nx, p, rfl⟩ := h
  rfl
theorem Fn.lt {H : AH} (h : Fn H) {i : Nat} {o : AO} (hg : H.get i = some o) : i < H.nx := by
  obtain ⟨f, nx, p, rfl⟩ := h
  rcases Nat.lt_or_ge i nx with h1 | h1
  · exact h1
  · have : f i = some o := hg
    rw [p i h1] at this; cases this
theorem Fn.okI {H : AH} (h : Fn H) {i : Nat} {o : AO} (hg : H.get i = some o) : H.okI i = true := by
  have := h.lt hg
  obtain ⟨f, nx, p, rfl⟩ := h
  exact Nat.blt_eq.symm ▸ this
theorem Fn.okI' {H : AH} (h : Fn H) {i : Nat} (hg : i < H.nx) : H.okI i = true := by
  obtain ⟨f, nx, p, rfl⟩ := h
  exact Nat.blt_eq.symm ▸ hg
theorem Fn.get_push {H : AH} (h : Fn H) (o : AO) (j : Nat) : (H.push o).get j = if j = H.nx then some o else H.get j := by
  obtain ⟨f, nx, p, rfl⟩ := h
  rfl
theorem Fn.nx_push {H : AH} (h : Fn H) (o : AO) : (H.push o).nx = H.nx + 1 := by
  obtain ⟨f, nx, p, rfl⟩ := h
  rfl
theorem Fn.get_set {H : AH} (h : Fn H) {i : Nat} (hi : i < H.nx) (o : Option AO) (j : Nat) : (H.set i o).get j = if j = i then o else H.get j := AH.get_set H i j o (h.okI' hi)
theorem Fn.fresh {H : AH} (h : Fn H) {j : Nat} (hj : H.nx ≤ j) : H.get j = none := by
  obtain ⟨f, nx, p, rfl⟩ := h
  exact p j hj
theorem H0_get (i : Nat) : H0.get i = none := rfl
theorem H0_nx : H0.nx = 0 := rfl

/-! ### the steps, worked off -/
section
variable {R : Type} [Mon R]

theorem opn_z (f : Cur R 0) : opn 0 [] f = f := rfl
theorem opn_s (n : Nat) (a : AV) (l : List AV) (f : Cur R (n + 1)) : opn (n + 1) (a :: l) f = opn n l (f a) := rfl
theorem sel_z (a : AV) (l : List AV) : sel 0 (a :: l) = a := rfl
theorem sel_s (n : Nat) (a : AV) (l : List AV) : sel (n + 1) (a :: l) = sel n l := rfl
theorem qCd_eq (c : List AV → AV) (A B : KT R → KT R) (k : KT R) (fr : List AV) (H : AH) : qCd c A B k fr H = qIf (c fr) (A k fr H) (B k fr H) := rfl
theorem qIf_true (a b : R) : qIf (.bool true) a b = a := rfl
theorem qIf_false (a b : R) : qIf (.bool false) a b = b := rfl
theorem qFn_eq (B : KT R → KT R) (kr : KT R) (fr : List AV) (H : AH) : qFn B kr fr H = B kr fr H := rfl
theorem qBl_eq (A : KT R → KT R) (k : KT R) : qBl A k = A k := rfl
theorem qO_some {α : Type} (v : α) (k : α → R) : qO (some v) k = k v := rfl
theorem qRes_val (v : AV) (H : AH) (k : AV → AH → R) : qRes (some (.val v H)) k = k v H := rfl
theorem qResN_val (v : AV) (H : AH) (k : AV → AH → R) : qResN (some (.val v H)) k = k v H := rfl
theorem qRes_pan (v : AV) (H : AH) (k : AV → AH → R) : qRes (some (.panic v H)) k = Mon.pan v H := rfl
theorem qPan_if (t : Nat) (v : AV) (H : AH) : (qPan (.iface t v) H : R) = Mon.pan (.iface t v) H := rfl
theorem qCallVN_fn (C : CallF) (g : Nat) (a b as : List AV) (H : AH) (k : AV → AH → R) : qCallVN C (.fn (.func g) a b) as H k = qResN (C g (a ++ as ++ b) H) k := rfl
theorem qTwin_ptr (i o j o' : Nat) (k : R) (h : i ≠ j) : qTwin (.ptr i o) (.ptr j o') k = k := by
  have : i.beq j = false := by
    cases hb : i.beq j with
    | false => rfl
    | true => exact absurd (Nat.eq_of_beq_eq_true hb) h
  simp only [qTwin, this, cond_false]
theorem qHp_some (v : AV) (H : AH) (k : AV → AH → R) : qHp (some (v, H)) k = k v H := rfl
theorem qPick_true (a b : AV) (k : AV → R) : qPick (.bool true) a b k = k a := rfl
theorem qPick_false (a b : AV) (k : AV → R) : qPick (.bool false) a b k = k b := rfl
theorem qG_tt (A : (AV → AH → R) → R) (H : AH) (k : AV → AH → R) : qG (.bool true) true A H k = A k := rfl
theorem qG_ff (A : (AV → AH → R) → R) (H : AH) (k : AV → AH → R) : qG (.bool false) false A H k = A k := rfl
theorem qG_tf (A : (AV → AH → R) → R) (H : AH) (k : AV → AH → R) : qG (.bool true) false A H k = k undef H := rfl
theorem qG_ft (A : (AV → AH → R) → R) (H : AH) (k : AV → AH → R) : qG (.bool false) true A H k = k undef H := rfl
theorem cellsK_some (cs : List AV) (k : List AV → R) : cellsK (some (.cells cs)) k = k cs := rfl
theorem cellsK_obj (t j : Nat) (cs : List AV) (k : List AV → R) : cellsK (some (.obj t j cs)) k = k cs := rfl
theorem stK_some (cs vs : List AV) (o : Nat) (k : AO → R) : stK (some (.cells cs)) o vs k = qO (setRange cs o vs) fun cs => k (.cells cs) := rfl
theorem stK_obj (t : Nat) (cs vs : List AV) (o : Nat) (k : AO → R) : stK (some (.obj t 0 cs)) o vs k = qO (setRange cs o vs) fun cs => k (.obj t 0 cs) := rfl
theorem qLd_ptr (i o : Nat) (H : AH) (k : AV → R) : qLd (.ptr i o) H k = cellsK (H.get i) fun cs => qO cs[o]? k := rfl
theorem qLd_vptr (r : List AV) (o : Nat) (H : AH) (k : AV → R) : qLd (.vptr r o) H k = qO r[o]? k := rfl
theorem qLdA_ptr (n i o : Nat) (H : AH) (k : AV → R) : qLdA n (.ptr i o) H k = cellsK (H.get i) fun cs => qO (slice? cs o n) fun l => k (.agg l) := rfl
theorem qLdA_vptr (n : Nat) (r : List AV) (o : Nat) (H : AH) (k : AV → R) : qLdA n (.vptr r o) H k = qO (slice? r o n) fun l => k (.agg l) := rfl
theorem qFa_ptr (off i o : Nat) (k : AV → R) : qFa off (.ptr i o) k = k (.ptr i (o + off)) := rfl
theorem qFa_vptr (off o : Nat) (r : List AV) (k : AV → R) : qFa off (.vptr r o) k = k (.vptr r (o + off)) := rfl
theorem qNc_ptr (i o : Nat) (k : AV → R) : qNc (.ptr i o) k = k (.ptr i o) := rfl
theorem qNc_vptr (r : List AV) (o : Nat) (k : AV → R) : qNc (.vptr r o) k = k (.vptr r o) := rfl
theorem qNc_fn (g : Nat) (a b : List AV) (k : AV → R) : qNc (.fn (.func g) a b) k = k (.fn (.func g) a b) := rfl
theorem qNot_bool (b : Bool) (k : AV → R) : qNot (.bool b) k = k (.bool !b) := rfl
theorem qExt_tup (vs : List AV) (i : Nat) (k : AV → R) : qExt (.tup vs) i k = qO vs[i]? k := rfl
theorem qCallV_fn (C : CallF) (g : Nat) (a b as : List AV) (H : AH) (k : AV → AH → R) : qCallV C (.fn (.func g) a b) as H k = qRes (C g (a ++ as ++ b) H) k := rfl

variable (X : Cx) (t : Nat) (kd : IntKind) (m n : Int) (k : AV → R)
theorem intsK_same (k : IntKind → Int → Int → R) (e : R) : intsK (.int kd m) (.int kd n) k e = k kd m n := by simp [intsK]
theorem qLss_int : qLss X t (.int kd m) (.int kd n) k = k (.bool (decide (m < n))) := by unfold qLss; rw [intsK_same]
theorem qLeq_int : qLeq X t (.int kd m) (.int kd n) k = k (.bool (decide (m ≤ n))) := by unfold qLeq; rw [intsK_same]
theorem qGtr_int : qGtr X t (.int kd m) (.int kd n) k = k (.bool (decide (n < m))) := by unfold qGtr; rw [intsK_same]
theorem qGeq_int : qGeq X t (.int kd m) (.int kd n) k = k (.bool (decide (n ≤ m))) := by unfold qGeq; rw [intsK_same]
theorem qEql_int : qEql X t (.int kd m) (.int kd n) k = k (.bool (m == n)) := by unfold qEql; rw [intsK_same]
theorem qNeq_int : qNeq X t (.int kd m) (.int kd n) k = k (.bool (!(m == n))) := by unfold qNeq; rw [intsK_same]
theorem qAdd_int : qAdd X t (.int kd m) (.int kd n) k = k (.int kd (kd.wrap (m + n))) := by unfold qAdd; rw [intsK_same]
theorem qSub_int : qSub X t (.int kd m) (.int kd n) k = k (.int kd (kd.wrap (m - n))) := by unfold qSub; rw [intsK_same]
theorem qMul_int : qMul X t (.int kd m) (.int kd n) k = k (.int kd (kd.wrap (m * n))) := by unfold qMul; rw [intsK_same]
theorem qQuo_int (h : n ≠ 0) : qQuo X t (.int kd m) (.int kd n) k = k (.int kd (kd.wrap (m.tdiv n))) := by unfold qQuo; rw [intsK_same]; simp [h]
theorem qRem_int (h : n ≠ 0) : qRem X t (.int kd m) (.int kd n) k = k (.int kd (m.tmod n)) := by unfold qRem; rw [intsK_same]; simp [h]
theorem qConvI_int (kd' : IntKind) : qConvI kd' (.int kd m) k = k (.int kd' (kd'.wrap m)) := rfl

theorem qLenL_sl (rows : List (List AV)) (tk : Tk) : qLenL (.sl rows tk) k = k (.int .i64 rows.length) := rfl
theorem qLenL_hsl (i o n c z : Nat) (g : Bool) : qLenL (.hsl i o n c z g) k = k (.int .i64 n) := rfl
theorem qLenS_str (s : List UInt8) : qLenS (.str s) k = k (.int .i64 s.length) := rfl

theorem natK_nat (j : Nat) (k : Nat → R) : natK (.int kd (j : Int)) k = k j := by simp [natK]

theorem qIa_sl (nn : Nat) (rows : List (List AV)) (tk : Tk) (j : Nat) (r : List AV) (h : rows[j]? = some r) (hl : r.length = nn) : qIa nn (.sl rows tk) (.int kd (j : Int)) k = k (.vptr r 0) := by
  unfold qIa
  rw [natK_nat]
  simp [h, qO, hl]

theorem qIa_hsl (nn i o mm c : Nat) (g : Bool) (j : Nat) (h : j < mm) : qIa nn (.hsl i o mm c nn g) (.int kd (j : Int)) k = k (.ptr i (o + j * nn)) := by
  unfold qIa
  rw [natK_nat]
  have : j.blt mm = true := by rw [Nat.blt_eq]; exact h
  simp [this]

theorem qIaA_ptr (len nn i o : Nat) (j : Nat) (h : j < len) : qIaA len nn (.ptr i o) (.int kd (j : Int)) k = k (.ptr i (o + j * nn)) := by
  unfold qIaA
  rw [natK_nat]
  have : j.blt len = true := by rw [Nat.blt_eq]; exact h
  simp [this]

theorem qIaA_vptr (len nn : Nat) (r : List AV) (o : Nat) (j : Nat) (h : j < len) : qIaA len nn (.vptr r o) (.int kd (j : Int)) k = k (.vptr r (o + j * nn)) := by
  unfold qIaA
  rw [natK_nat]
  have : j.blt len = true := by rw [Nat.blt_eq]; exact h
  simp [this]

theorem qNew_fn {H : AH} (h : Fn H) (o : AO) (w : Wr) (k : AV → AH → R) : qNew o w H k = k (w.mk H.nx) (H.push o) := by
  unfold qNew
  rw [h.new]

theorem qBox_fn {H : AH} (h : Fn H) (v : AV) (hv : allOne v.cells = true) (k : AV → AH → R) : qBox v H k = k (.ptr H.nx 0) (H.push (.cells v.cells)) := by
  unfold qBox
  rw [hv]
  exact qNew_fn h _ _ _

theorem setRange_one (cs : List AV) (o : Nat) (v : AV) (h : o < cs.length) : setRange cs o [v] = some (cs.set o v) := by
  unfold setRange
  have : (o + [v].length).ble cs.length = true := by simp; omega
  rw [this]
  simp only [cond_true, Option.some.injEq]
  rw [List.set_eq_take_append_cons_drop, if_pos h]
  simp

theorem one_cells {v : AV} (h : one v = true) : v.cells = [v] := by
  cases v <;> first | rfl | cases h

theorem qSt_one {H : AH} (hf : Fn H) {i : Nat} {cs : List AV} (hg : H.get i = some (.cells cs)) (o : Nat) (v : AV) (k : AV → AH → R) (hv : one v = true) (ho : o < cs.length) :
    qSt 1 (.ptr i o) v H k = k undef (H.set i (some (.cells (cs.set o v)))) := by
  unfold qSt
  have hc := one_cells hv
  have : (v.cells.length.beq 1 && allOne v.cells && H.okI i) = true := by
    rw [hc, hf.okI hg]
    simp [allOne, hv]
  simp only [this, cond_true, hg, stK]
  rw [hc, setRange_one cs o v ho]
  rfl

theorem min2_int (m n : Int) : min2 (.int kd m) (.int kd n) = some (.int kd (min m n)) := by
  simp only [min2, Option.some.injEq, AV.int.injEq, true_and]
  by_cases h : n < m
  · simp [h]; omega
  · simp [h]; omega
theorem max2_int (m n : Int) : max2 (.int kd m) (.int kd n) = some (.int kd (max m n)) := by
  simp only [max2, Option.some.injEq, AV.int.injEq, true_and]
  by_cases h : n > m
  · simp [h]; omega
  · simp [h]; omega
theorem foldO_one (f : AV → AV → Option AV) (x y z : AV) (h : f x y = some z) : foldO f x [y] = some z := by simp [foldO, h]

end

theorem beqI_refl (a : IntKind × Int) : beqI a a = true := by simp [beqI]

mutual
theorem beqV_refl : ∀ a : AV, beqV a a = true
  | .bool a => by simp [beqV]
  | .int k a => by simp [beqV, beqI]
  | .str a => by simp [beqV, eqL_spec]
  | .nilp => rfl
  | .ptr i o => by simp [beqV]
  | .vptr r o => by simp [beqV, beqVs_refl r]
  | .sl r t => by simp [beqV, beqVss_refl r]
  | .hsl i o n c s g => by simp [beqV]
  | .map none => rfl
  | .map (some a) => by simp [beqV]
  | .it a => by simp [beqV]
  | .nilfn => rfl
  | .fn f x y => by simp [beqV, beqVs_refl x, beqVs_refl y]
  | .iface t v => by simp [beqV, beqV_refl v]
  | .nilif => rfl
  | .agg a => by simp [beqV, beqVs_refl a]
  | .tup a => by simp [beqV, beqVs_refl a]
theorem beqVs_refl : ∀ a : List AV, beqVs a a = true
  | [] => rfl
  | x :: r => by simp [beqVs, beqV_refl x, beqVs_refl r]
theorem beqVss_refl : ∀ a : List (List AV), beqVss a a = true
  | [] => rfl
  | x :: r => by simp [beqVss, beqVs_refl x, beqVss_refl r]
end

theorem qSame_refl {R : Type} [Mon R] (v : AV) (k : R) : qSame v v k = k := by simp [qSame, beqV_refl]

/-! ### loops -/
theorem loop_inv {F : KT Prop → KT Prop} (I : Nat → List AV → AH → Prop)
    (step : ∀ m fr H (k : KT Prop), I m fr H → (∀ m' fr' H', m' < m → I m' fr' H' → k fr' H') → F k fr H) {m : Nat} {fr : List AV} {H : AH} (h : I m fr H) : qLoop F fr H := by
  refine ⟨m + 1, ?_⟩
  have key : ∀ n m fr H, m < n → I m fr H → fixN False F n fr H := by
    intro n
    induction n with
    | zero => intro m fr H hm; omega
    | succ n ih =>
      intro m fr H hm hi
      exact step m fr H _ hi (fun m' fr' H' h1 h2 => ih m' fr' H' (by omega) h2)
  exact key (m + 1) m fr H (by omega) h

/-- out of a function's form -/
theorem of_form {X : Cx} {O : CallF} {g np : Nat} {fn : Func} {ss : List Nat} {c : CallF → List AV → AH → (AV → AH → Prop) → Prop} (he : hFn (R := Prop) X g fn np ss = c) (hfn : X.fn g = some fn) {as : List AV} {H : AH} (ho : O g as H = none)
    {Q : AV → AH → Prop} (h : c (evl X O) as H Q) : ∃ v H', evl X O g as H = some (.val v H') ∧ Q v H' := by
  subst he
  exact evl_prop hfn ho h

theorem of_form_eq {X : Cx} {O : CallF} {g np : Nat} {fn : Func} {ss : List Nat} {c : CallF → List AV → AH → (AV → AH → Prop) → Prop} (he : hFn (R := Prop) X g fn np ss = c) (hfn : X.fn g = some fn) {as : List AV} {H : AH} (ho : O g as H = none)
    {v : AV} {H' : AH} (h : c (evl X O) as H (fun v' H'' => v' = v ∧ H'' = H')) : evl X O g as H = some (.val v H') := by
  obtain ⟨v', H'', h1, rfl, rfl⟩ := of_form he hfn ho h
  exact h1


theorem one_bool (b : Bool) : one (.bool b) = true := id rfl
theorem one_int (k : IntKind) (n : Int) : one (.int k n) = true := id rfl
theorem one_str (s : List UInt8) : one (.str s) = true := id rfl
theorem one_nilp : one .nilp = true := id rfl
theorem one_ptr (i o : Nat) : one (.ptr i o) = true := id rfl
theorem one_sl (r : List (List AV)) (t : Tk) : one (.sl r t) = true := id rfl
theorem one_hsl (i o n c z : Nat) (g : Bool) : one (.hsl i o n c z g) = true := id rfl
theorem one_map (r : Option Nat) : one (.map r) = true := id rfl
theorem one_fn (f : Go.Fn) (a b : List AV) : one (.fn f a b) = true := id rfl
end Go.Aes
