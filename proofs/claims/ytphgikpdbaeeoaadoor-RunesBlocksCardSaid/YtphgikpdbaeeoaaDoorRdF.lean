import Derived.Test.YtphgikpdbaeeoaaDoorRdE
set_option linter.all false
set_option linter.unusedVariables false
set_option linter.unusedSimpArgs false
set_option maxRecDepth 10000
namespace T
open Go Go.Aes Go.Proofs

/-! ### the values that the laws make -/
def iRows (ch : List Int) : List (List AV) := ch.map fun z => [.int .i64 z]
theorem iRows_len (ch : List Int) : (iRows ch).length = ch.length := by simp [iRows]
theorem iRows_kill (l : List Int) : AV.killss (iRows l) = iRows l := by
  rw [killss_map]; simp [iRows, AV.kill]
theorem iRows_free (l : List Int) : AV.freess (iRows l) = true := by
  rw [freess_all]
  intro r hr a ha
  obtain ⟨y, _, rfl⟩ := List.mem_map.1 hr
  simp at ha; subst ha; rfl

def null : Val := .mk 1 [] [] []
def bools : List Str := [sT, sF]
def whole : List Str := [[48], [45,53], [49,50], [50,49,52,55,52,56,51,54,52,55], [57,57,57,57,57,57,57,57,57,57,57]]
def broken : List Str := [[49,46,53], [48,101,49], [45,48,46,50,53,69,45,51], [49,101,43,57]]
def texts : List Str := [[], [97], [34], [195,169,10], [120,32,121]]
def leaf (c : Nat) : Val :=
  if c % 7 = 0 then .mk 2 (bools.getD (c / 7 % 2) []) [] []
  else if c % 7 = 1 then .mk 3 (whole.getD (c / 7 % 5) []) [] []
  else if c % 7 = 2 then .mk 4 (broken.getD (c / 7 % 4) []) [] []
  else if c % 7 = 3 then .mk 5 (texts.getD (c / 7 % 5) []) [] []
  else null
def kids (f : Nat → Val × Nat) : Nat → Nat → List Val × Nat
  | 0, i => ([], i)
  | m + 1, i => ((f i).1 :: (kids f m (f i).2).1, (kids f m (f i).2).2)
def nms : Nat → List Str
  | 0 => []
  | m + 1 => (110 :: decs (m + 1)) :: nms m
def nmsB (b : Bool) (m : Nat) : List Str := bif b then nms m else []
def tree (c : Nat) (f : Nat → Val × Nat) (i : Nat) : Val × Nat :=
  (.mk (7 + (c / 7 % 2 : Nat)) [] (nmsB (c / 7 % 2 == 1) (c / 14 % 4)) (kids f (c / 14 % 4) i).1, (kids f (c / 14 % 4) i).2)
def chz (z : Int) : Nat := (z % 1048576).toNat
def made : Nat → List Int → Nat → Val × Nat
  | 0, ch, i => match ch[i]? with
    | none => (null, i)
    | some z => (leaf (chz z), i + 1)
  | d + 1, ch, i => match ch[i]? with
    | none => (null, i)
    | some z => if chz z % 7 = 4 ∧ d ≠ 0 then tree (chz z) (made d ch) (i + 1) else (leaf (chz z), i + 1)

theorem made_none {ch : List Int} {i : Nat} (h : ch.length ≤ i) (D : Nat) : made D ch i = (null, i) := by
  have : ch[i]? = none := by simp; omega
  cases D <;> simp [made, this]
theorem made_leaf {ch : List Int} {i : Nat} {z : Int} (h : ch[i]? = some z) {D : Nat} (hc : chz z % 7 ≠ 4 ∨ D ≤ 1) : made D ch i = (leaf (chz z), i + 1) := by
  cases D with
  | zero => simp [made, h]
  | succ d =>
    simp only [made, h]
    rw [if_neg (by omega)]
theorem made_tree {ch : List Int} {i : Nat} {z : Int} (h : ch[i]? = some z) {d : Nat} (hc : chz z % 7 = 4) (hd : d ≠ 0) : made (d + 1) ch i = tree (chz z) (made d ch) (i + 1) := by
  simp only [made, h]
  rw [if_pos ⟨hc, hd⟩]
theorem kids_le {f : Nat → Val × Nat} {N : Nat} (hf : ∀ i, i ≤ N → i ≤ (f i).2 ∧ (f i).2 ≤ N) : ∀ m i, i ≤ N → i ≤ (kids f m i).2 ∧ (kids f m i).2 ≤ N
  | 0, i, hi => ⟨Nat.le_refl _, hi⟩
  | m + 1, i, hi => by
    have h1 := hf i hi
    have h2 := kids_le hf m (f i).2 h1.2
    simp only [kids]
    omega
theorem made_le {ch : List Int} : ∀ D i, i ≤ ch.length → i ≤ (made D ch i).2 ∧ (made D ch i).2 ≤ ch.length := by
  intro D
  induction D with
  | zero =>
    intro i hi
    rcases Nat.lt_or_ge i ch.length with h | h
    · rw [made_leaf (List.getElem?_eq_getElem h) (.inr (by omega))]; exact ⟨by simp, h⟩
    · rw [made_none h]; exact ⟨Nat.le_refl _, hi⟩
  | succ d ih =>
    intro i hi
    rcases Nat.lt_or_ge i ch.length with h | h
    · by_cases hc : chz ch[i] % 7 ≠ 4 ∨ d + 1 ≤ 1
      · rw [made_leaf (List.getElem?_eq_getElem h) hc]; exact ⟨by simp, h⟩
      · rw [made_tree (List.getElem?_eq_getElem h) (by omega) (by omega)]
        have := kids_le ih (chz ch[i] / 14 % 4) (i + 1) h
        simp only [tree]
        omega
    · rw [made_none h]; exact ⟨Nat.le_refl _, hi⟩

/-! right, and small -/
theorem leaf_right (c e : Nat) : rightF (e + 1) (leaf c) = true ∧ vsz (leaf c) := by
  have f0 : ∀ a : Nat, a % 2 < 2 := fun a => Nat.mod_lt _ (by omega)
  have f1 : ∀ a : Nat, a % 5 < 5 := fun a => Nat.mod_lt _ (by omega)
  have f2 : ∀ a : Nat, a % 4 < 4 := fun a => Nat.mod_lt _ (by omega)
  have nil : ∀ (k : Int) (s : Str), s.length < 1000000000000 → vsz (.mk k s [] []) := fun k s hs => ⟨hs, by simp, fun n hn => (by cases hn), by simp, trivial⟩
  unfold leaf
  split
  · match c / 7 % 2, f0 (c / 7) with
    | 0, _ => exact ⟨by kernel_rfl, nil _ _ (by decide)⟩
    | 1, _ => exact ⟨by kernel_rfl, nil _ _ (by decide)⟩
  split
  · match c / 7 % 5, f1 (c / 7) with
    | 0, _ => exact ⟨by kernel_rfl, nil _ _ (by decide)⟩
    | 1, _ => exact ⟨by kernel_rfl, nil _ _ (by decide)⟩
    | 2, _ => exact ⟨by kernel_rfl, nil _ _ (by decide)⟩
    | 3, _ => exact ⟨by kernel_rfl, nil _ _ (by decide)⟩
    | 4, _ => exact ⟨by kernel_rfl, nil _ _ (by decide)⟩
  split
  · match c / 7 % 4, f2 (c / 7) with
    | 0, _ => exact ⟨by kernel_rfl, nil _ _ (by decide)⟩
    | 1, _ => exact ⟨by kernel_rfl, nil _ _ (by decide)⟩
    | 2, _ => exact ⟨by kernel_rfl, nil _ _ (by decide)⟩
    | 3, _ => exact ⟨by kernel_rfl, nil _ _ (by decide)⟩
  split
  · match c / 7 % 5, f1 (c / 7) with
    | 0, _ => exact ⟨by kernel_rfl, nil _ _ (by decide)⟩
    | 1, _ => exact ⟨by kernel_rfl, nil _ _ (by decide)⟩
    | 2, _ => exact ⟨by kernel_rfl, nil _ _ (by decide)⟩
    | 3, _ => exact ⟨by kernel_rfl, nil _ _ (by decide)⟩
    | 4, _ => exact ⟨by kernel_rfl, nil _ _ (by decide)⟩
  · exact ⟨by kernel_rfl, nil _ _ (by decide)⟩
theorem nms_len : ∀ m, (nms m).length = m
  | 0 => rfl
  | m + 1 => by simp [nms, nms_len m]
theorem nms_ok (m : Nat) (h : m < 4) : nmF [] (nms m) = true ∧ ∀ n ∈ nms m, n.length < 1000000000000 := by
  have : ∀ m, m < 4 → ((nms m).all fun n => decide (n.length < 1000000000000)) = true := by
    intro m h
    match m, h with
    | 0, _ => rfl
    | 1, _ => rfl
    | 2, _ => rfl
    | 3, _ => rfl
  refine ⟨?_, fun n hn => of_decide_eq_true (List.all_eq_true.1 (this m h) n hn)⟩
  match m, h with
  | 0, _ => rfl
  | 1, _ => show nmF [] (nms 1) = true; kernel_rfl
  | 2, _ => show nmF [] (nms 2) = true; kernel_rfl
  | 3, _ => show nmF [] (nms 3) = true; kernel_rfl
theorem kids_len (f : Nat → Val × Nat) : ∀ m i, (kids f m i).1.length = m
  | 0, i => rfl
  | m + 1, i => by simp [kids, kids_len f m]
theorem kids_all {f : Nat → Val × Nat} {p : Val → Prop} (hf : ∀ i, p (f i).1) : ∀ m i, ∀ v ∈ (kids f m i).1, p v
  | 0, i, v, hv => by cases hv
  | m + 1, i, v, hv => by
    rcases List.mem_cons.1 hv with rfl | hv
    · exact hf i
    · exact kids_all hf m _ v hv
theorem vszs_of : ∀ {l : List Val}, (∀ v ∈ l, vsz v) → vszs l
  | [], _ => trivial
  | a :: l, h => ⟨h a (by simp), vszs_of fun v hv => h v (by simp [hv])⟩
theorem made_right (ch : List Int) : ∀ D e i, D ≤ e → rightF (e + 1) (made D ch i).1 = true ∧ vsz (made D ch i).1 := by
  intro D
  induction D with
  | zero =>
    intro e i _
    rcases Nat.lt_or_ge i ch.length with h | h
    · rw [made_leaf (List.getElem?_eq_getElem h) (.inr (by omega))]; exact leaf_right _ _
    · rw [made_none h]; exact leaf_right 4 _
  | succ d ih =>
    intro e i he
    rcases Nat.lt_or_ge i ch.length with h | h
    · by_cases hc : chz ch[i] % 7 ≠ 4 ∨ d + 1 ≤ 1
      · rw [made_leaf (List.getElem?_eq_getElem h) hc]; exact leaf_right _ _
      · rw [made_tree (List.getElem?_eq_getElem h) (by omega) (by omega)]
        obtain ⟨e, rfl⟩ : ∃ e', e = e' + 1 := ⟨e - 1, by omega⟩
        have hm : chz ch[i] / 14 % 4 < 4 := Nat.mod_lt _ (by omega)
        have hk := kids_all (f := made d ch) (p := fun v => rightF (e + 1) v = true ∧ vsz v) (fun j => ih e j (by omega)) (chz ch[i] / 14 % 4) (i + 1)
        have hl := kids_len (made d ch) (chz ch[i] / 14 % 4) (i + 1)
        have hal : (kids (made d ch) (chz ch[i] / 14 % 4) (i + 1)).1.all (rightF (e + 1)) = true := List.all_eq_true.2 fun v hv => (hk v hv).1
        have hvs : vszs (kids (made d ch) (chz ch[i] / 14 % 4) (i + 1)).1 := vszs_of fun v hv => (hk v hv).2
        obtain ⟨n1, n2⟩ := nms_ok _ hm
        simp only [tree]
        rcases (by omega : chz ch[i] / 7 % 2 = 0 ∨ chz ch[i] / 7 % 2 = 1) with hb | hb
        · rw [hb]
          refine ⟨?_, by simp, by simp [nmsB], by simp [nmsB], by rw [hl]; omega, hvs⟩
          have : rightF (e + 1 + 1) (.mk 7 [] [] (kids (made d ch) (chz ch[i] / 14 % 4) (i + 1)).1) = (true && true && (kids (made d ch) (chz ch[i] / 14 % 4) (i + 1)).1.all (rightF (e + 1))) := rfl
          rw [hal] at this
          exact this
        · rw [hb]
          refine ⟨?_, by simp, ?_, ?_, by rw [hl]; omega, hvs⟩
          · have : rightF (e + 1 + 1) (.mk 8 [] (nms (chz ch[i] / 14 % 4)) (kids (made d ch) (chz ch[i] / 14 % 4) (i + 1)).1) = (true && decide ((nms (chz ch[i] / 14 % 4)).length = (kids (made d ch) (chz ch[i] / 14 % 4) (i + 1)).1.length) && nmF [] (nms (chz ch[i] / 14 % 4)) && (kids (made d ch) (chz ch[i] / 14 % 4) (i + 1)).1.all (rightF (e + 1))) := rfl
            rw [hal, n1, hl, nms_len, decide_eq_true rfl] at this
            exact this
          · show (nms _).length < _
            rw [nms_len]; omega
          · exact n2
    · rw [made_none h]; exact leaf_right 4 _
end T
