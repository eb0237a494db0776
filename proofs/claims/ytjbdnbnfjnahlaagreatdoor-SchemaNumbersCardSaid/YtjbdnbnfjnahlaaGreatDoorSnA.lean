import Derived.Test.YtjbdnbnfjnahlaaGreatDoorSrZ
import Derived.Test.YtjbdnbnfjnahlaaGreatDoorSnV
set_option linter.all false
set_option linter.unusedVariables false
set_option linter.unusedSimpArgs false
set_option maxRecDepth 100000
namespace T
open Go Go.Aes Go.Proofs

/-! ### whatever can be computed, asked first -/
noncomputable def cvO (g : Nat) (al : List AV) : Option Res := cev OF1 (runT cT) 100 g (AV.kills al) HT
def okR : Option Res → Bool
  | some (.val v _) => v.kill.free
  | _ => false
def rvR : Option Res → AV
  | some (.val v _) => v.kill
  | _ => Aes.undef
theorem okR_inv {r : Option Res} (h : okR r = true) : ∃ v H, r = some (.val v H) ∧ v.kill.free = true ∧ rvR r = v.kill := by
  unfold okR at h
  split at h
  · exact ⟨_, _, rfl, h, rfl⟩
  · cases h
noncomputable def compO : CallF := fun g al H => bif AV.frees (AV.kills al) && okR (cvO g al) then some (.val (rvR (cvO g al)) H) else none
theorem compO_ok (B : Nat) (W : World) (ht : Tb B W) : CallOk Tryz.prog B W compO := by
  refine ⟨fun g al H q hq => ?_, fun g al H q hq => ?_⟩
  all_goals
    unfold compO at hq
    cases hb : (AV.frees (AV.kills al) && okR (cvO g al)) with
    | false => rw [hb] at hq; cases hq
    | true =>
      rw [hb] at hq
      simp only [cond_true, Option.some.injEq] at hq
      subst hq
      simp only [Bool.and_eq_true] at hb
      obtain ⟨v, H', h1, h2, h3⟩ := okR_inv hb.2
      first
        | exact (cev_ok prOk (OF1_ok B W ht) cTabs 100).fn g _ _ _ h1
        | exact fun K w vs hw hl => h3 ▸ pure_callT tbOk (fun B W h => cev_ok prOk (OF1_ok B W h) cTabs 100) HT_get hb.1 h1 h2 ht hw hl
theorem compO_of {g : Nat} {al : List AV} {v : AV} (h : chkB OF1 100 g al v = true) (H : AH) : compO g al H = some (.val v H) := by
  unfold chkB at h
  simp only [Bool.and_eq_true] at h
  obtain ⟨h1, h2, h3⟩ := h
  have h4 : ∃ w H', cvO g al = some (.val w H') ∧ w.kill = v := by
    unfold cvO
    cases hr : cev OF1 (runT cT) 100 g (AV.kills al) HT with
    | none => rw [hr] at h3; cases h3
    | some r =>
      cases r with
      | panic a b => rw [hr] at h3; cases h3
      | val w H' => rw [hr] at h3; exact ⟨w, H', rfl, beqV_sound _ _ h3⟩
  obtain ⟨w, H', h5, h6⟩ := h4
  unfold compO
  rw [h5, h1]
  show (bif true && w.kill.free then some (Res.val w.kill H) else none) = _
  rw [h6, h2]; rfl

/-! ### what is found of a name, of a field -/
def N18 : List Str := [[81, 117, 101, 114, 121], [78, 111, 100, 101], [65], [66], [84, 104, 105, 110, 103], [75, 105, 110, 100], [73, 110], [65, 110, 121], [73, 110, 116], [78, 111, 110, 101], [77, 117, 116, 97, 116, 105, 111, 110], [76, 101, 97, 102], [82, 111, 111, 116], [97], [105, 100], [95, 95, 116, 121, 112, 101, 110, 97, 109, 101], [110, 101, 120, 116], [110, 97, 109, 101]]
def tpl5 : AV → Bool
  | .tup [.agg [a, b, c, d, e], .bool _] => one a && one b && one c && one d && one e
  | _ => false
theorem tpl5_inv {v : AV} (h : tpl5 v = true) : ∃ a b c d e k, v = .tup [.agg [a, b, c, d, e], .bool k] ∧ one a = true ∧ one b = true ∧ one c = true ∧ one d = true ∧ one e = true := by
  unfold tpl5 at h
  split at h
  · simp only [Bool.and_eq_true] at h
    exact ⟨_, _, _, _, _, _, rfl, h.1.1.1.1, h.1.1.1.2, h.1.1.2, h.1.2, h.2⟩
  · cases h
def yT : AV → AV
  | .tup [.agg cs, _] => .agg [.str [], .str [], .sl [cs] .full]
  | _ => Aes.undef
def yF : AV → AV
  | .tup [.agg cs, _] => .agg [.str [], .str [], .sl [[.int .i64 0, .str [], .sl [] .nil, .sl [cs] .full, .sl [] .nil]] .full]
  | _ => Aes.undef
def isI : AV → Bool
  | .int .i64 _ => true
  | _ => false
def isB : AV → Bool
  | .bool _ => true
  | _ => false
theorem isI_inv {v : AV} (h : isI v = true) : ∃ n, v = .int .i64 n := by
  unfold isI at h
  split at h
  · exact ⟨_, rfl⟩
  · cases h
theorem isB_inv {v : AV} (h : isB v = true) : ∃ n, v = .bool n := by
  unfold isB at h
  split at h
  · exact ⟨_, rfl⟩
  · cases h
noncomputable def kd (o : Bool) (a : Str) : AV := rvR (cvO 22 [sch o, .str a])
noncomputable def chkF (o : Bool) (a : Str) : Bool :=
  chkB OF1 100 42 [sch o, .str a] (fd o a) && (chkB OF1 100 43 [sch o, .str a] (fd o a) && (tpl5 (fd o a) && (chkB OF1 100 45 [yT (fd o a), yT (fd o a)] (.bool true) &&
  (isI (kd o a) && (chkB OF1 100 22 [sch o, .str a] (kd o a) && (chkB OF1 100 35 [sch o, .str a] (kd o a) && chkB OF1 100 46 [strL (pos o a), strL (pos o a)] (.bool true)))))))
theorem chkF_f : (N18.all fun a => chkF false a) = true := by kernel_rfl
theorem chkF_t : (N18.all fun a => chkF true a) = true := by kernel_rfl
noncomputable def chkG (o : Bool) (a b : Str) : Bool :=
  chkB OF1 100 21 [sch o, .str a, .str b] (ff o a b) && (chkB OF1 100 44 [sch o, .str a, .str b] (ff o a b) && (tpl5 (ff o a b) && chkB OF1 100 45 [yF (ff o a b), yF (ff o a b)] (.bool true)))
theorem chkG_t0 : (N18.all fun b => chkG true (N18.getD 0 []) b) = true := by kernel_rfl
theorem chkG_t1 : (N18.all fun b => chkG true (N18.getD 1 []) b) = true := by kernel_rfl
theorem chkG_t2 : (N18.all fun b => chkG true (N18.getD 2 []) b) = true := by kernel_rfl
theorem chkG_t3 : (N18.all fun b => chkG true (N18.getD 3 []) b) = true := by kernel_rfl
theorem chkG_t4 : (N18.all fun b => chkG true (N18.getD 4 []) b) = true := by kernel_rfl
theorem chkG_t5 : (N18.all fun b => chkG true (N18.getD 5 []) b) = true := by kernel_rfl
theorem chkG_t6 : (N18.all fun b => chkG true (N18.getD 6 []) b) = true := by kernel_rfl
theorem chkG_t7 : (N18.all fun b => chkG true (N18.getD 7 []) b) = true := by kernel_rfl
theorem chkG_t8 : (N18.all fun b => chkG true (N18.getD 8 []) b) = true := by kernel_rfl
theorem chkG_t9 : (N18.all fun b => chkG true (N18.getD 9 []) b) = true := by kernel_rfl
theorem chkG_t10 : (N18.all fun b => chkG true (N18.getD 10 []) b) = true := by kernel_rfl
theorem chkG_t11 : (N18.all fun b => chkG true (N18.getD 11 []) b) = true := by kernel_rfl
theorem chkG_t12 : (N18.all fun b => chkG true (N18.getD 12 []) b) = true := by kernel_rfl
theorem chkG_t13 : (N18.all fun b => chkG true (N18.getD 13 []) b) = true := by kernel_rfl
theorem chkG_t14 : (N18.all fun b => chkG true (N18.getD 14 []) b) = true := by kernel_rfl
theorem chkG_t15 : (N18.all fun b => chkG true (N18.getD 15 []) b) = true := by kernel_rfl
theorem chkG_t16 : (N18.all fun b => chkG true (N18.getD 16 []) b) = true := by kernel_rfl
theorem chkG_t17 : (N18.all fun b => chkG true (N18.getD 17 []) b) = true := by kernel_rfl
theorem chkG_f0 : (N18.all fun b => chkG false (N18.getD 0 []) b) = true := by kernel_rfl
theorem chkG_f1 : (N18.all fun b => chkG false (N18.getD 1 []) b) = true := by kernel_rfl
theorem chkG_f2 : (N18.all fun b => chkG false (N18.getD 2 []) b) = true := by kernel_rfl
theorem chkG_f3 : (N18.all fun b => chkG false (N18.getD 3 []) b) = true := by kernel_rfl
theorem chkG_f4 : (N18.all fun b => chkG false (N18.getD 4 []) b) = true := by kernel_rfl
theorem chkG_f5 : (N18.all fun b => chkG false (N18.getD 5 []) b) = true := by kernel_rfl
theorem chkG_f6 : (N18.all fun b => chkG false (N18.getD 6 []) b) = true := by kernel_rfl
theorem chkG_f7 : (N18.all fun b => chkG false (N18.getD 7 []) b) = true := by kernel_rfl
theorem chkG_f8 : (N18.all fun b => chkG false (N18.getD 8 []) b) = true := by kernel_rfl
theorem chkG_f9 : (N18.all fun b => chkG false (N18.getD 9 []) b) = true := by kernel_rfl
theorem chkG_f10 : (N18.all fun b => chkG false (N18.getD 10 []) b) = true := by kernel_rfl
theorem chkG_f11 : (N18.all fun b => chkG false (N18.getD 11 []) b) = true := by kernel_rfl
theorem chkG_f12 : (N18.all fun b => chkG false (N18.getD 12 []) b) = true := by kernel_rfl
theorem chkG_f13 : (N18.all fun b => chkG false (N18.getD 13 []) b) = true := by kernel_rfl
theorem chkG_f14 : (N18.all fun b => chkG false (N18.getD 14 []) b) = true := by kernel_rfl
theorem chkG_f15 : (N18.all fun b => chkG false (N18.getD 15 []) b) = true := by kernel_rfl
theorem chkG_f16 : (N18.all fun b => chkG false (N18.getD 16 []) b) = true := by kernel_rfl
theorem chkG_f17 : (N18.all fun b => chkG false (N18.getD 17 []) b) = true := by kernel_rfl
theorem chkG_all (o : Bool) {a b : Str} (ha : a ∈ N18) (hb : b ∈ N18) : chkG o a b = true := by
  have key : ∀ i, i < 18 → (N18.all fun b => chkG o (N18.getD i []) b) = true := by
    intro i hi
    have : i = 0 ∨ i = 1 ∨ i = 2 ∨ i = 3 ∨ i = 4 ∨ i = 5 ∨ i = 6 ∨ i = 7 ∨ i = 8 ∨ i = 9 ∨ i = 10 ∨ i = 11 ∨ i = 12 ∨ i = 13 ∨ i = 14 ∨ i = 15 ∨ i = 16 ∨ i = 17 := by omega
    cases o
    · rcases this with rfl | rfl | rfl | rfl | rfl | rfl | rfl | rfl | rfl | rfl | rfl | rfl | rfl | rfl | rfl | rfl | rfl | rfl
      · exact chkG_f0
      · exact chkG_f1
      · exact chkG_f2
      · exact chkG_f3
      · exact chkG_f4
      · exact chkG_f5
      · exact chkG_f6
      · exact chkG_f7
      · exact chkG_f8
      · exact chkG_f9
      · exact chkG_f10
      · exact chkG_f11
      · exact chkG_f12
      · exact chkG_f13
      · exact chkG_f14
      · exact chkG_f15
      · exact chkG_f16
      · exact chkG_f17
    · rcases this with rfl | rfl | rfl | rfl | rfl | rfl | rfl | rfl | rfl | rfl | rfl | rfl | rfl | rfl | rfl | rfl | rfl | rfl
      · exact chkG_t0
      · exact chkG_t1
      · exact chkG_t2
      · exact chkG_t3
      · exact chkG_t4
      · exact chkG_t5
      · exact chkG_t6
      · exact chkG_t7
      · exact chkG_t8
      · exact chkG_t9
      · exact chkG_t10
      · exact chkG_t11
      · exact chkG_t12
      · exact chkG_t13
      · exact chkG_t14
      · exact chkG_t15
      · exact chkG_t16
      · exact chkG_t17
  obtain ⟨i, hi, rfl⟩ := List.mem_iff_getElem.1 ha
  have hl : N18.length = 18 := by kernel_rfl
  have := List.all_eq_true.1 (key i (by omega)) b hb
  rw [List.getD_eq_getElem?_getD, List.getElem?_eq_getElem hi] at this
  exact this

/-! ### may a type come in, go out? -/
noncomputable def inV (o : Bool) (n w : Str) : AV := rvR (cvO 50 [sch o, ty n w])
noncomputable def outV (o : Bool) (n w : Str) : AV := rvR (cvO 52 [sch o, ty n w])
noncomputable def chkI (o : Bool) (n w : Str) : Bool :=
  isB (inV o n w) && (chkB OF1 100 50 [sch o, ty n w] (inV o n w) && (chkB OF1 100 51 [sch o, ty n w] (inV o n w) && (isB (outV o n w) && (chkB OF1 100 52 [sch o, ty n w] (outV o n w) && chkB OF1 100 53 [sch o, ty n w] (outV o n w)))))
theorem chkI_f : (N12.all fun n => W8.all fun w => chkI false n w) = true := by kernel_rfl
theorem chkI_t : (N12.all fun n => W8.all fun w => chkI true n w) = true := by kernel_rfl
end T
