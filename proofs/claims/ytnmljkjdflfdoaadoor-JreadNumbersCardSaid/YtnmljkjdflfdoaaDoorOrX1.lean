import Derived.Test.YtnmljkjdflfdoaaDoorTabRd
import Derived.Test.YtnmljkjdflfdoaaDoorS16
import Derived.Shelf.Unicode.ValidAny
import Derived.Shelf.Small.Strs
import Derived.Lib.LaidU8T
import Derived.Shelf.RegionOpenPlain
import Derived.Lib.Builder
import Derived.Lib.UnsafeStr
import Derived.Lib.MakeNoZero
import Derived.Lib.Walk
import Derived.Laws.Externs
set_option linter.all false
set_option linter.unusedVariables false
namespace Go.Proofs
open Go.RowKit Go.Shelf Go.Lib
def Tryd.laysValid_ren : Go.Shelf.Ren := ⟨fun | 196 => 76 | 259 => 84 | n => n, fun | 9 => 9 | 4 => 4 | 3 => 3 | 5 => 5 | 12 => 12 | 119 => 109 | 0 => 0 | 46 => 103 | 139 => 112 | 138 => 111 | 53 => 119 | n => n, fun | 3 => 0 | 4 => 1 | n => n⟩
theorem Tryd.laysValid : Go.Proofs.Lays.n196 Tryd.prog Tryd.laysValid_ren := {
  mixed := by kernel_rfl
  f196 := Tryd.func76.trans (congrArg some (by kernel_rfl))
  f259 := Tryd.func84.trans (congrArg some (by kernel_rfl))
  t0 := Tryd.underlying0
  a0 := Tryd.isAgg0
  z0 := Tryd.sizeOf0
  v0 := Tryd.zeroValue0
  t3 := Tryd.underlying3
  a3 := Tryd.isAgg3
  z3 := Tryd.sizeOf3
  v3 := Tryd.zeroValue3
  t4 := Tryd.underlying4
  a4 := Tryd.isAgg4
  z4 := Tryd.sizeOf4
  v4 := Tryd.zeroValue4
  t5 := Tryd.underlying5
  a5 := Tryd.isAgg5
  z5 := Tryd.sizeOf5
  v5 := Tryd.zeroValue5
  t9 := Tryd.underlying9
  a9 := Tryd.isAgg9
  z9 := Tryd.sizeOf9
  v9 := Tryd.zeroValue9
  t12 := Tryd.underlying12
  a12 := Tryd.isAgg12
  z12 := Tryd.sizeOf12
  v12 := Tryd.zeroValue12
  t46 := Tryd.underlying103
  a46 := Tryd.isAgg103
  z46 := Tryd.sizeOf103
  v46 := Tryd.zeroValue103
  t53 := Tryd.underlying119
  a53 := Tryd.isAgg119
  z53 := Tryd.sizeOf119
  v53 := Tryd.zeroValue119
  t119 := Tryd.underlying109
  a119 := Tryd.isAgg109
  z119 := Tryd.sizeOf109
  t138 := Tryd.underlying111
  a138 := Tryd.isAgg111
  z138 := Tryd.sizeOf111
  v138 := Tryd.zeroValue111
  t139 := Tryd.underlying112
  a139 := Tryd.isAgg112
  z139 := Tryd.sizeOf112
  v139 := Tryd.zeroValue112
  g3 := by kernel_rfl
  g4 := by kernel_rfl }
def Tryd.laysIB_ren : Go.Shelf.Ren := ⟨fun | 137 => 53 | 217 => 68 | 266 => 80 | n => n, fun | 9 => 9 | 5 => 5 | 3 => 3 | n => n, fun | n => n⟩
theorem Tryd.laysIB : Go.Proofs.Lays.n137 Tryd.prog Tryd.laysIB_ren := {
  mixed := by kernel_rfl
  f137 := Tryd.func53.trans (congrArg some (by kernel_rfl))
  f217 := Tryd.func68.trans (congrArg some (by kernel_rfl))
  f266 := Tryd.func80.trans (congrArg some (by kernel_rfl))
  t3 := Tryd.underlying3
  a3 := Tryd.isAgg3
  z3 := Tryd.sizeOf3
  v3 := Tryd.zeroValue3
  t5 := Tryd.underlying5
  a5 := Tryd.isAgg5
  z5 := Tryd.sizeOf5
  v5 := Tryd.zeroValue5
  t9 := Tryd.underlying9
  a9 := Tryd.isAgg9
  z9 := Tryd.sizeOf9
  v9 := Tryd.zeroValue9 }
theorem Tryd.sizeB : Tryd.prog.info? 93 = some Tryd.t93 := by kernel_rfl
theorem Tryd.liesB : liesAt Tryd.prog Tryd.prog.depth 93 (2 / Tryd.prog.cellsOf 93) 0 93 1 = true := by kernel_rfl

set_option maxHeartbeats 1000000 in
set_option maxRecDepth 100000 in
theorem Tryd.cc_used (b : Nat) (w : World) (h0 : w.cell? ⟨b, 0, none⟩ = some (.pointer (some ⟨b, 0, none⟩))) :
    Calls Tryd.prog 77 #[.pointer (some ⟨b, 0, none⟩)] w fun e w' => e = .returned (.tuple #[]) ∧ w' = w := by
  go_enter Tryd.func77, Tryd.ntmps77
  go_wp2
  rw [Lib.run_neq_ptr_same w _ Tryd.underlying91 Tryd.sizeB]
  go_wp2
  go_end0
  exact ⟨rfl, rfl⟩

set_option maxHeartbeats 1000000 in
set_option maxRecDepth 100000 in
theorem Tryd.cc_fresh (b : Nat) (w : World) (h0 : w.cell? ⟨b, 0, none⟩ = some (.pointer none)) (hsh : w.shape? b = some (93, 2)) (hfz : w.frozen? ⟨b, 0, none⟩ = false) :
    Calls Tryd.prog 77 #[.pointer (some ⟨b, 0, none⟩)] w fun e w' => e = .returned (.tuple #[]) ∧ w' = w.setCell ⟨b, 0, none⟩ (.pointer (some ⟨b, 0, none⟩)) := by
  go_enter Tryd.func77, Tryd.ntmps77
  go_wp2
  rw [Lib.run_to_unsafe w ⟨b, 0, none⟩ Tryd.underlying91 Tryd.underlying113 Tryd.sizeB (by decide) hsh (Nat.zero_lt_succ 1)]
  simp only [Result.andThen]
  rw [Oper.upon_value]
  go_wp2
  rw [run_callFunc_extern Tryd.func85 (by kernel_rfl) (by kernel_rfl) (by kernel_rfl) (e := Extern.AbiNoEscape.same) (by kernel_rfl)]
  rw [Lib.run_noEscape]
  simp only [Result.andThen]
  rw [Oper.upon_value]
  go_wp2
  rw [Lib.run_from_unsafe w ⟨b, 0, none⟩ Tryd.underlying113 Tryd.underlying91 Tryd.sizeB hsh Tryd.liesB]
  simp only [Result.andThen]
  rw [Oper.upon_value]
  go_wp2
  go_end0
  exact ⟨rfl, rfl⟩

set_option maxHeartbeats 2000000 in
set_option maxRecDepth 100000 in
theorem Tryd.str_nil (b : Nat) (w : World) (c0 : w.cell? ⟨b, 1, none⟩ = some (.slice none 0 0)) :
    Calls Tryd.prog 67 #[.pointer (some ⟨b, 0, none⟩)] w fun e w' => e = .returned (.string ⟨#[]⟩) ∧ w' = w.drew := by
  have hUS : ∀ W q, (Builtin.unsafeString_ #[106, 3] 9 #[.pointer q, .int .i64 0]).run Tryd.prog W = .ok (.string .empty) W := fun W q => Lib.run_unsafeString_none W _ _ _ q
  have c1 : w.drew.cell? ⟨b, 1, none⟩ = some (.slice none 0 0) := c0
  have hSD : (Builtin.unsafeSliceData_ #[39] 106 #[.slice none 0 0]).run Tryd.prog w.drew = .ok (.pointer none) w.drew := rfl
  go_enter Tryd.func67, Tryd.ntmps67
  go_wp2
  have mixed : Tryd.prog.follows .mixedOrders = true := rfl
  go_region_o
  all_goals (go_wp2; go_ret; exact ⟨rfl, rfl⟩)

set_option maxHeartbeats 2000000 in
set_option maxRecDepth 100000 in
theorem Tryd.str_row (b g cells cap : Nat) (l : List UInt8) (w : World) (h0 : l ≠ []) (hcap : cap ≠ 0) (c0 : w.cell? ⟨b, 1, none⟩ = some (.slice (some ⟨g, 0, none⟩) l.length cap)) (hsh : w.shape? g = some (5, cells)) (hn : l.length ≤ cells) (h63 : l.length ≤ 9223372036854775807)
    (hcell : ∀ (j : Nat) x, l[j]? = some x → w.cell? ⟨g, j, none⟩ = some (.int .u8 x.toNat)) :
    Calls Tryd.prog 67 #[.pointer (some ⟨b, 0, none⟩)] w fun e w' => e = .returned (.string ⟨l.toArray⟩) ∧ w' = w.drew.freeze ⟨g, 0, none⟩ l.length := by
  have c1 : w.drew.cell? ⟨b, 1, none⟩ = some (.slice (some ⟨g, 0, none⟩) l.length cap) := c0
  have hSD : (Builtin.unsafeSliceData_ #[39] 106 #[.slice (some ⟨g, 0, none⟩) l.length cap]).run Tryd.prog w.drew = .ok (.pointer (some ⟨g, 0, none⟩)) w.drew := Lib.run_unsafeSliceData_row _ _ _ _ _ _ hcap
  have hUS : (Builtin.unsafeString_ #[106, 3] 9 #[.pointer (some ⟨g, 0, none⟩), .int .i64 l.length]).run Tryd.prog w.drew = .ok (.string ⟨l.toArray⟩) (w.drew.freeze ⟨g, 0, none⟩ l.length) := by
    refine Lib.run_unsafeString_row w.drew 106 3 9 5 Tryd.underlying106 (by kernel_rfl) g cells hsh l h0 hn h63 ?_
    intro j x hx
    rw [Go.Aes.add_plain, Nat.zero_add]
    exact hcell j x hx
  go_enter Tryd.func67, Tryd.ntmps67
  go_wp2
  have mixed : Tryd.prog.follows .mixedOrders = true := rfl
  go_region_o
  all_goals (go_wp2; go_ret; exact ⟨rfl, rfl⟩)
end Go.Proofs
set_option linter.unusedVariables false
set_option linter.unusedSimpArgs false
set_option maxRecDepth 10000
namespace T
open Go Go.Aes Go.Proofs Go.RowKit

/-! ### contracts that are asked first -/
def bytesK : List AV → Option (List UInt8)
  | [] => some []
  | a :: r => match a with
    | .int k n => bif decide (k = .u8) && decide (0 ≤ n) && decide (n < 256) then (bytesK r).map (UInt8.ofNat n.toNat :: ·) else none
    | _ => none

def oCC (al : List AV) (H : AH) : Option Res :=
  match al with
  | [.ptr i o] => bif !o.beq 0 then none else
    match H.get i with
    | some (.obj t k [a, v]) => bif !(t.beq 93 && k.beq 0) then none else
      match a with
      | .nilp => bif H.okI i then some (.val Aes.undef (H.set i (some (.obj 93 0 [.ptr i 0, v])))) else none
      | .ptr j p => bif j.beq i && p.beq 0 then some (.val Aes.undef H) else none
      | _ => none
    | _ => none
  | _ => none

def oStr (al : List AV) (H : AH) : Option Res :=
  match al with
  | [.ptr i o] => bif !o.beq 0 then none else
    match H.get i with
    | some (.obj t k [a, v]) =>
      match v with
      | .sl [] .nil => some (.val (.str []) H)
      | .hsl j d n c sz g => match H.get j with
        | some (.obj u kk cs) => bif u.beq 5 && d.beq 0 && !n.beq 0 && n.ble cs.length && n.ble 9223372036854775807 && H.okI j then
            (match bytesK (cs.take n) with
              | some s => some (.val (.str s) (H.set j (some (.obj 5 2 cs))))
              | none => none) else none
        | _ => none
      | _ => none
    | _ => none
  | _ => none

def oValid (al : List AV) (H : AH) : Option Res :=
  match al with
  | [.str s] => bif s.length.ble 9223372036854775807 then some (.val (.bool (Lib.validD s)) H) else none
  | _ => none

def oIB (al : List AV) (H : AH) : Option Res :=
  match al with
  | [.str s, .int k c] => bif decide (k = .u8) then some (.val (.int .i64 (Lib.indexByte s c.toNat.toUInt8)) H) else none
  | _ => none

/-- the tables lie in the first heap -/
def Tb (B : Nat) (W : World) : Prop := Lib.Utf8Tabs 0 1 W ∧ 1 < B

theorem tbOk : TbOk Tb := ⟨fun B W w ⟨h1, h2⟩ hb hB => by
  have key : ∀ g o, g < B → w.cell? ⟨g, o, none⟩ = W.cell? ⟨g, o, none⟩ := fun g o hg => World.cell?_of_block (hb.block g hg)
  refine ⟨?_, Nat.lt_of_lt_of_le h2 (Nat.le_trans hB hb.size)⟩
  obtain ⟨k1, k2⟩ := h1
  refine ⟨fun c hc => ?_, fun i hi => ⟨?_, ?_⟩⟩
  · rw [key _ _ (by omega)]; exact k1 c hc
  · rw [key _ _ (by omega)]; exact (k2 i hi).1
  · rw [key _ _ (by omega)]; exact (k2 i hi).2⟩

section
variable {B : Nat} {W w : World} {K : KC} {H : AH} {r : Res} {al : List AV} {vs : List Value}

theorem ptr_inv {i o : Nat} (hl : RL K [.ptr i o] vs) : ∃ b z, vs = [.pointer (some ⟨b, o, none⟩)] ∧ K.μ i = some (b, z) := by
  obtain ⟨v, vs', rfl, hv, h2⟩ := hl.cons_inv
  obtain rfl := h2.nil_inv
  cases hv with
  | ptr i o b z hm => exact ⟨b, z, rfl, hm⟩

theorem setCell_eq {w : World} {b o ty : Nat} {arr : Array Value} {fz : Nat × Nat} {v : Value} (hb : w.heap[b]? = some (.cells arr ty fz)) :
    w.setCell ⟨b, o, none⟩ v = { w with heap := w.heap.setIfInBounds b (.cells (arr.setIfInBounds o v) ty fz) } := by
  have hlt : b < w.heap.size := (Array.getElem?_eq_some_iff.1 hb).1
  unfold World.setCell
  congr 1
  apply Array.ext_getElem?
  intro k
  rw [Array.getElem?_modify, Array.getElem?_setIfInBounds]
  by_cases hk : b = k
  · subst hk; rw [if_pos rfl, if_pos rfl, if_pos hlt, hb]; rfl
  · rw [if_neg hk, if_neg hk]

theorem freeze_eq {w : World} {b o ty n : Nat} {arr : Array Value} {fz : Nat × Nat} (hn : n ≠ 0) (hb : w.heap[b]? = some (.cells arr ty fz)) :
    ∃ fz', w.freeze ⟨b, o, none⟩ n = { w with heap := w.heap.setIfInBounds b (.cells arr ty fz') } := by
  have hlt : b < w.heap.size := (Array.getElem?_eq_some_iff.1 hb).1
  obtain ⟨lo, hi⟩ := fz
  refine ⟨if lo == hi then (o, o + n) else (min lo o, max hi (o + n)), ?_⟩
  unfold World.freeze
  rw [if_neg hn]
  congr 1
  apply Array.ext_getElem?
  intro k
  rw [Array.getElem?_modify, Array.getElem?_setIfInBounds]
  by_cases hk : b = k
  · subst hk; rw [if_pos rfl, if_pos rfl, if_pos hlt, hb]; rfl
  · rw [if_neg hk, if_neg hk]

theorem oCC_ok (h : oCC al H = some r) (hw : RW B W K H w) (hl : RL K al vs) : Calls Tryd.prog 77 vs.toArray w (CPost B W K H r) := by
  unfold oCC at h
  split at h <;> first | (cases h; done) | skip
  rename_i i o
  cases ho : o.beq 0 with
  | false => simp [ho] at h
  | true =>
    obtain rfl : o = 0 := by simpa using ho
    simp only [ho, Bool.not_true, cond_false] at h
    split at h <;> first | (cases h; done) | skip
    rename_i t k a v hg
    cases hb : (t.beq 93 && k.beq 0) with
    | false => simp [hb] at h
    | true =>
      simp only [hb, Bool.not_true, cond_false] at h
      obtain ⟨rfl, rfl⟩ : t = 93 ∧ k = 0 := by simpa using hb
      obtain ⟨b, z, rfl, hm⟩ := ptr_inv hl
      obtain ⟨arr, fz, k1, k2, k3, k4, k5, k6, k7⟩ := hw.obj i _ hg b z hm
      obtain rfl := k6 (Nat.zero_le 1)
      have hz : z = 2 := (k7 rfl).symm
      subst hz
      have hsz : arr.size = 2 := k2
      have hc : ∀ j, w.cell? ⟨b, j, none⟩ = arr[j]? := fun j => cell_of_row w b j arr 93 (0, 0) k1
      have r0 := k4 0 a arr[0] rfl (Array.getElem?_eq_getElem (by omega))
      have r1 := k4 1 v arr[1] rfl (Array.getElem?_eq_getElem (by omega))
      split at h <;> first | (cases h; done) | skip
      · cases hi : H.okI i with
        | false => simp [hi] at h
        | true =>
          simp only [hi, cond_true, Option.some.injEq] at h
          subst h
          have e0 : w.cell? ⟨b, 0, none⟩ = some (.pointer none) := by
            rw [hc, Array.getElem?_eq_getElem (by omega)]
            generalize arr[0] = q at r0
            cases r0
            rfl
          refine (Tryd.cc_fresh b w e0 (by simp [World.shape?, k1, hsz]) (by simp [World.frozen?, k1])).mono ?_
          rintro e w' ⟨rfl, rfl⟩
          rw [setCell_eq k1]
          have hlt : b < w.heap.size := (Array.getElem?_eq_some_iff.1 k1).1
          refine ⟨K, .undef, hw.write (i := i) (b := b) (o := .obj 93 0 [.nilp, v]) (o' := .obj 93 0 [.ptr i 0, v]) hg (own_of hg (by simp [plc, hm])) _ (fun j => AH.get_set H i j _ hi) (AH.nx_set _ _ _) (by simp) k5 ?_, ⟨.refl K, AH.le_set _ _ _, fun _ _ => ⟨rfl, rfl⟩⟩⟩
          intro b1 z1 hm1
          rw [hm] at hm1
          injection hm1 with hm1
          injection hm1 with e1 e2
          subst e1; subst e2
          refine ⟨_, (0, 0), by show (w.heap.setIfInBounds b _)[b]? = _; rw [Array.getElem?_setIfInBounds_self_of_lt hlt], by simpa using hsz, by simp, fun j a' x e1 e2 => ?_, k5, fun _ => rfl, fun _ => rfl⟩
          match j, e1 with
          | 0, e1 =>
            simp at e1
            subst e1
            rw [Array.getElem?_setIfInBounds_self_of_lt (by omega)] at e2
            injection e2 with e2
            subst e2
            exact .ptr i 0 b 2 hm
          | 1, e1 =>
            simp at e1
            subst e1
            rw [Array.getElem?_setIfInBounds_ne (by omega), Array.getElem?_eq_getElem (by omega)] at e2
            injection e2 with e2
            subst e2
            exact r1
          | j + 2, e1 => simp at e1
      · rename_i j p
        cases hj : (j.beq i && p.beq 0) with
        | false => simp [hj] at h
        | true =>
          simp only [hj, cond_true, Option.some.injEq] at h
          subst h
          obtain ⟨rfl, rfl⟩ : j = i ∧ p = 0 := by simpa using hj
          have e0 : w.cell? ⟨b, 0, none⟩ = some (.pointer (some ⟨b, 0, none⟩)) := by
            rw [hc, Array.getElem?_eq_getElem (by omega)]
            generalize arr[0] = q at r0
            cases r0 with
            | ptr i o b' z' hm' =>
              rw [hm] at hm'
              injection hm' with hm'
              injection hm' with q1 q2
              rw [q1]
          refine (Tryd.cc_used b w e0).mono ?_
          rintro e w' ⟨rfl, rfl⟩
          exact ⟨K, .undef, hw, .refl K H⟩

theorem bytesK_spec : ∀ {cs : List AV} {s : List UInt8}, bytesK cs = some s → cs = s.map fun b => .int .u8 b.toNat
  | [], s, h => by simp [bytesK] at h; subst h; rfl
  | a :: r, s, h => by
    cases a <;> simp only [bytesK] at h <;> first | (cases h; done) | skip
    rename_i k n
    cases hb : (decide (k = .u8) && decide (0 ≤ n) && decide (n < 256)) with
    | false => rw [hb] at h; cases h
    | true =>
      rw [hb] at h
      simp only [cond_true] at h
      obtain ⟨s', h1, rfl⟩ := Option.map_eq_some_iff.1 h
      simp only [Bool.and_eq_true, decide_eq_true_eq] at hb
      obtain ⟨⟨rfl, h2⟩, h3⟩ := hb
      rw [bytesK_spec h1]
      simp
      omega
theorem bytesK_map (s : List UInt8) : bytesK (s.map fun b => .int .u8 b.toNat) = some s := by
  induction s with
  | nil => rfl
  | cons b r ih =>
    have h1 : b.toNat < 256 := b.toNat_lt
    have h2 : (decide ((b.toNat : Int) < 256)) = true := decide_eq_true (by omega)
    simp [bytesK, ih, h2]

theorem oStr_ok (h : oStr al H = some r) (hw : RW B W K H w) (hl : RL K al vs) : Calls Tryd.prog 67 vs.toArray w (CPost B W K H r) := by
  unfold oStr at h
  split at h <;> first | (cases h; done) | skip
  rename_i i o
  cases ho : o.beq 0 with
  | false => simp [ho] at h
  | true =>
    obtain rfl : o = 0 := by simpa using ho
    simp only [ho, Bool.not_true, cond_false] at h
    split at h <;> first | (cases h; done) | skip
    rename_i t k a v hg
    obtain ⟨b, z, rfl, hm⟩ := ptr_inv hl
    obtain ⟨arr, fz, k1, k2, k3, k4, k5, k6, k7⟩ := hw.obj i _ hg b z hm
    have hsz : 2 ≤ arr.size := by simp at k3; omega
    have hc : ∀ j, w.cell? ⟨b, j, none⟩ = arr[j]? := fun j => cell_of_row w b j arr t fz k1
    have r1 := k4 1 v arr[1] rfl (Array.getElem?_eq_getElem (by omega))
    split at h <;> first | (cases h; done) | skip
    · simp only [Option.some.injEq] at h
      subst h
      have e0 : w.cell? ⟨b, 1, none⟩ = some (.slice none 0 0) := by
        rw [hc, Array.getElem?_eq_getElem (by omega)]
        generalize arr[1] = q at r1
        cases r1 with
        | slNil => rfl
        | slE p tk ht => rcases ht with h | h <;> cases h
        | sl rows tk b d c sz cv h0 hr hF hv hc ht => exact ht.elim
      refine (Tryd.str_nil b w e0).mono ?_
      rintro e w' ⟨rfl, rfl⟩
      exact ⟨K, .str [], hw.drew, .refl K H⟩
    · rename_i j d n c sz g
      split at h <;> first | (cases h; done) | skip
      rename_i u kk cs hgj
      cases hb : (u.beq 5 && d.beq 0 && !n.beq 0 && n.ble cs.length && n.ble 9223372036854775807 && H.okI j) with
      | false => simp [hb] at h
      | true =>
        simp only [hb, cond_true] at h
        cases hs : bytesK (cs.take n) with
        | none => simp [hs] at h
        | some s =>
          simp only [hs, Option.some.injEq] at h
          subst h
          simp only [Bool.and_eq_true, Nat.beq_eq, Bool.not_eq_true', Nat.ble_eq] at hb
          obtain ⟨⟨⟨⟨⟨rfl, rfl⟩, h3⟩, h4⟩, h5⟩, h6⟩ := hb
          have h3' : n ≠ 0 := by intro e; subst e; simp at h3
          have hbs := bytesK_spec hs
          have hsl : s.length = n := by
            have := congrArg List.length hbs
            simp at this
            omega
          generalize hq : arr[1] = q at r1
          cases r1 with
          | hsl i' o1 o2 n1 c1 c2 g0 z0 sz1 gg hmj hnc hcc hz0 ho' =>
            obtain rfl : o2 = 0 := ho'.resolve_right (by omega)
            obtain ⟨arr2, fz2, m1, m2, m3, m4, m5, m6, m7⟩ := hw.obj j _ hgj g0 z0 hmj
            have e0 : w.cell? ⟨b, 1, none⟩ = some (.slice (some ⟨g0, 0, none⟩) s.length c2) := by
              rw [hc, Array.getElem?_eq_getElem (by omega), hq, hsl]
            have hcell : ∀ (p : Nat) x, s[p]? = some x → w.cell? ⟨g0, p, none⟩ = some (.int .u8 x.toNat) := by
              intro p x hx
              have hp : p < n := by rw [← hsl]; exact (List.getElem?_eq_some_iff.1 hx).1
              have e1 : cs[p]? = some (.int .u8 x.toNat) := by
                have : (cs.take n)[p]? = some (.int .u8 x.toNat) := by rw [hbs, List.getElem?_map, hx]; rfl
                rw [List.getElem?_take, if_pos hp] at this
                exact this
              have hpa : p < arr2.size := by omega
              rw [cell_of_row w g0 p arr2 5 fz2 m1, Array.getElem?_eq_getElem hpa]
              have := m4 p _ _ e1 (Array.getElem?_eq_getElem hpa)
              rw [this.int_inv]
            refine (Tryd.str_row b g0 arr2.size c2 s w (by intro e; subst e; simp at hsl; omega) (by omega) e0 (by simp [World.shape?, m1]) (by omega) (by omega) hcell).mono ?_
            rintro e w' ⟨rfl, rfl⟩
            obtain ⟨fz', hf⟩ := freeze_eq (w := w.drew) (o := 0) (n := s.length) (by omega) m1
            rw [hf]
            have hlt : g0 < w.heap.size := (Array.getElem?_eq_some_iff.1 m1).1
            refine ⟨K, .str s, hw.drew.write (i := j) (b := g0) (o := .obj 5 kk cs) (o' := .obj 5 2 cs) hgj (own_of hgj (by simp [plc, hmj])) _ (fun q => AH.get_set H j q _ h6) (AH.nx_set _ _ _) (by simp) m5 ?_, ⟨.refl K, AH.le_set _ _ _, fun _ _ => ⟨rfl, rfl⟩⟩⟩
            intro b1 z1 hm1
            rw [hmj] at hm1
            injection hm1 with hm1
            injection hm1 with e1 e2
            subst e1; subst e2
            exact ⟨arr2, fz', by show (w.heap.setIfInBounds g0 _)[g0]? = _; rw [Array.getElem?_setIfInBounds_self_of_lt hlt], m2, m3, m4, m5, fun h => by omega, fun h => by omega⟩

theorem str_vs {s : List UInt8} {al : List AV} {vs : List Value} (hl : RL K (.str s :: al) vs) : ∃ vs', vs = .string ⟨s.toArray⟩ :: vs' ∧ RL K al vs' := by
  obtain ⟨v, vs', rfl, hv, h2⟩ := hl.cons_inv
  exact ⟨vs', by rw [hv.str_inv], h2⟩

theorem oValid_ok (ht : Tb B W) (h : oValid al H = some r) (hw : RW B W K H w) (hl : RL K al vs) : Calls Tryd.prog 76 vs.toArray w (CPost B W K H r) := by
  unfold oValid at h
  split at h <;> first | (cases h; done) | skip
  rename_i s
  cases hs : s.length.ble 9223372036854775807 with
  | false => simp [hs] at h
  | true =>
    simp only [hs, cond_true, Option.some.injEq] at h
    subst h
    obtain ⟨vs', rfl, h2⟩ := str_vs hl
    obtain rfl := h2.nil_inv
    have hs' : s.length ≤ 9223372036854775807 := by simpa using hs
    exact call_below (fun K => .bool _) hw (Any.utf8_ValidString Tryd.laysValid ⟨s.toArray⟩ w (by simpa [ByteArray.size] using hs') (tbOk.at_ ht hw).1)

theorem oIB_ok (h : oIB al H = some r) (hw : RW B W K H w) (hl : RL K al vs) : Calls Tryd.prog 53 vs.toArray w (CPost B W K H r) := by
  unfold oIB at h
  split at h <;> first | (cases h; done) | skip
  rename_i s k c
  cases hk : decide (k = IntKind.u8) with
  | false => simp [hk] at h
  | true =>
    rw [hk] at h
    obtain rfl : k = .u8 := by simpa using hk
    simp only [cond_true, Option.some.injEq] at h
    subst h
    obtain ⟨vs', rfl, h2⟩ := str_vs hl
    obtain ⟨v, vs'', rfl, hv, h3⟩ := h2.cons_inv
    obtain rfl := h3.nil_inv
    rw [hv.int_inv]
    refine call_below (fun K => .int _ _) hw ((Any.strings_IndexByte Tryd.laysIB ⟨s.toArray⟩ c w).mono ?_)
    rintro e w' ⟨rfl, rfl⟩
    exact ⟨rfl, .refl _ _⟩
end

def OD (g : Nat) : Bool := [53, 67, 76, 77, 87].contains g
def OF : CallF := fun g al H => bif g.beq 77 then oCC al H else bif g.beq 67 then oStr al H else bif g.beq 76 then oValid al H else bif g.beq 53 then oIB al H else none

theorem OF_cases {g : Nat} {al : List AV} {H : AH} {r : Res} (h : OF g al H = some r) : (g = 77 ∧ oCC al H = some r) ∨ (g = 67 ∧ oStr al H = some r) ∨ (g = 76 ∧ oValid al H = some r) ∨ (g = 53 ∧ oIB al H = some r) := by
  unfold OF at h
  cases h1 : g.beq 77 with
  | true => rw [h1] at h; exact .inl ⟨by simpa using h1, h⟩
  | false =>
    rw [h1] at h
    cases h2 : g.beq 67 with
    | true => rw [h2] at h; exact .inr (.inl ⟨by simpa using h2, h⟩)
    | false =>
      rw [h2] at h
      cases h3 : g.beq 76 with
      | true => rw [h3] at h; exact .inr (.inr (.inl ⟨by simpa using h3, h⟩))
      | false =>
        rw [h3] at h
        cases h4 : g.beq 53 with
        | true => rw [h4] at h; exact .inr (.inr (.inr ⟨by simpa using h4, h⟩))
        | false => rw [h4] at h; cases h

theorem OF_ok (B : Nat) (W : World) (ht : Tb B W) : CallOk Tryd.prog B W OF := by
  refine ⟨fun g al H r h => ?_, fun g al H r h K w vs hw hl => ?_⟩
  · rcases OF_cases h with ⟨rfl, _⟩ | ⟨rfl, _⟩ | ⟨rfl, _⟩ | ⟨rfl, _⟩
    · exact ⟨_, Tryd.func77, by kernel_rfl, by kernel_rfl⟩
    · exact ⟨_, Tryd.func67, by kernel_rfl, by kernel_rfl⟩
    · exact ⟨_, Tryd.func76, by kernel_rfl, by kernel_rfl⟩
    · exact ⟨_, Tryd.func53, by kernel_rfl, by kernel_rfl⟩
  · rcases OF_cases h with ⟨rfl, h⟩ | ⟨rfl, h⟩ | ⟨rfl, h⟩ | ⟨rfl, h⟩
    · exact oCC_ok h hw hl
    · exact oStr_ok h hw hl
    · exact oValid_ok ht h hw hl
    · exact oIB_ok h hw hl
end T
