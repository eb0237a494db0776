import Derived.Test.YtpndehigidcchaaDoorOrD
import Derived.Shelf.Strings.Replace
import Derived.Shelf.Strings.Split
import Derived.Shelf.Strings.OnBuilder
set_option linter.all false
set_option linter.unusedVariables false
set_option maxRecDepth 10000
namespace Go.Proofs
open Go.RowKit Go.Shelf Go.Lib
def Tryd.laysRepl_ren : Go.Shelf.Ren := ⟨fun | 155 => 40 | 154 => 54 | 138 => 65 | 165 => 55 | 143 => 66 | 166 => 27 | 197 => 61 | 169 => 29 | 195 => 74 | 218 => 75 | 240 => 37 | 241 => 67 | 219 => 76 | 260 => 73 | 276 => 51 | 277 => 77 | 217 => 14 | 225 => 70 | 224 => 69 | 267 => 80 | 266 => 22 | 314 => 84 | n => n, fun | 9 => 9 | 3 => 3 | 4 => 4 | 72 => 54 | 0 => 0 | 76 => 57 | 105 => 71 | 21 => 21 | 5 => 5 | 70 => 52 | 20 => 20 | 37 => 35 | 75 => 56 | 127 => 64 | 164 => 80 | 46 => 89 | 119 => 92 | 139 => 95 | 138 => 94 | 146 => 107 | 51 => 99 | 80 => 60 | n => n, fun | 1 => 0 | 3 => 1 | 4 => 2 | n => n⟩
theorem Tryd.laysRepl : Go.Proofs.Lays.n155 Tryd.prog Tryd.laysRepl_ren := {
  mixed := by kernel_rfl
  f138 := Tryd.func65.trans (congrArg some (by kernel_rfl))
  f143 := Tryd.func66.trans (congrArg some (by kernel_rfl))
  f154 := Tryd.func54.trans (congrArg some (by kernel_rfl))
  f155 := Tryd.func40.trans (congrArg some (by kernel_rfl))
  f165 := Tryd.func55.trans (congrArg some (by kernel_rfl))
  f166 := Tryd.func27.trans (congrArg some (by kernel_rfl))
  f169 := Tryd.func29.trans (congrArg some (by kernel_rfl))
  f195 := Tryd.func74.trans (congrArg some (by kernel_rfl))
  f197 := Tryd.func61.trans (congrArg some (by kernel_rfl))
  f217 := Tryd.func14.trans (congrArg some (by kernel_rfl))
  f218 := Tryd.func75.trans (congrArg some (by kernel_rfl))
  f219 := Tryd.func76.trans (congrArg some (by kernel_rfl))
  f224 := Tryd.func69.trans (congrArg some (by kernel_rfl))
  f225 := Tryd.func70.trans (congrArg some (by kernel_rfl))
  f240 := Tryd.func37.trans (congrArg some (by kernel_rfl))
  f241 := Tryd.func67.trans (congrArg some (by kernel_rfl))
  f260 := Tryd.func73.trans (congrArg some (by kernel_rfl))
  f266 := Tryd.func22.trans (congrArg some (by kernel_rfl))
  f267 := Tryd.func80.trans (congrArg some (by kernel_rfl))
  f276 := Tryd.func51.trans (congrArg some (by kernel_rfl))
  f277 := Tryd.func77.trans (congrArg some (by kernel_rfl))
  f314 := Tryd.func84.trans (congrArg some (by kernel_rfl))
  t0 := Tryd.underlying0
  a0 := Tryd.isAgg0
  z0 := Tryd.sizeOf0
  v0 := Tryd.zeroValue0
  t3 := Tryd.underlying3
  a3 := Tryd.isAgg3
  z3 := Tryd.sizeOf3
  v3 := Tryd.zeroValue3
  t4 := Tryd.underlying4
  a4 := Tryd.isAgg4
  z4 := Tryd.sizeOf4
  v4 := Tryd.zeroValue4
  t5 := Tryd.underlying5
  a5 := Tryd.isAgg5
  z5 := Tryd.sizeOf5
  v5 := Tryd.zeroValue5
  t9 := Tryd.underlying9
  a9 := Tryd.isAgg9
  z9 := Tryd.sizeOf9
  v9 := Tryd.zeroValue9
  t20 := Tryd.underlying20
  a20 := Tryd.isAgg20
  z20 := Tryd.sizeOf20
  v20 := Tryd.zeroValue20
  t21 := Tryd.underlying21
  a21 := Tryd.isAgg21
  z21 := Tryd.sizeOf21
  v21 := Tryd.zeroValue21
  t37 := Tryd.underlying35
  a37 := Tryd.isAgg35
  z37 := Tryd.sizeOf35
  v37 := Tryd.zeroValue35
  t46 := Tryd.underlying89
  a46 := Tryd.isAgg89
  z46 := Tryd.sizeOf89
  v46 := Tryd.zeroValue89
  t51 := Tryd.underlying99
  a51 := Tryd.isAgg99
  z51 := Tryd.sizeOf99
  v51 := Tryd.zeroValue99
  t70 := Tryd.underlying52
  a70 := Tryd.isAgg52
  z70 := Tryd.sizeOf52
  v70 := Tryd.zeroValue52
  t72 := Tryd.underlying54
  a72 := Tryd.isAgg54
  z72 := Tryd.sizeOf54
  v72 := Tryd.zeroValue54
  t75 := Tryd.underlying56
  a75 := Tryd.isAgg56
  z75 := Tryd.sizeOf56
  v75 := Tryd.zeroValue56
  t76 := Tryd.underlying57
  a76 := Tryd.isAgg57
  z76 := Tryd.sizeOf57
  v76 := Tryd.zeroValue57
  t105 := Tryd.underlying71
  a105 := Tryd.isAgg71
  z105 := Tryd.sizeOf71
  v105 := Tryd.zeroValue71
  t119 := Tryd.underlying92
  a119 := Tryd.isAgg92
  z119 := Tryd.sizeOf92
  t127 := Tryd.underlying64
  a127 := Tryd.isAgg64
  z127 := Tryd.sizeOf64
  v127 := Tryd.zeroValue64
  t138 := Tryd.underlying94
  a138 := Tryd.isAgg94
  z138 := Tryd.sizeOf94
  v138 := Tryd.zeroValue94
  t139 := Tryd.underlying95
  a139 := Tryd.isAgg95
  z139 := Tryd.sizeOf95
  v139 := Tryd.zeroValue95
  t146 := Tryd.underlying107
  a146 := Tryd.isAgg107
  z146 := Tryd.sizeOf107
  v146 := Tryd.zeroValue107
  t164 := Tryd.underlying80
  a164 := Tryd.isAgg80
  z164 := Tryd.sizeOf80
  v164 := Tryd.zeroValue80
  g1 := by kernel_rfl
  g3 := by kernel_rfl
  g4 := by kernel_rfl }
def Tryd.laysSplit_ren : Go.Shelf.Ren := ⟨fun | 146 => 39 | 221 => 53 | 268 => 64 | 138 => 65 | 143 => 66 | 195 => 74 | 197 => 61 | 218 => 75 | 219 => 76 | 260 => 73 | 217 => 14 | 225 => 70 | 224 => 69 | 267 => 80 | 266 => 22 | 314 => 84 | n => n, fun | 9 => 9 | 31 => 65 | 3 => 3 | 4 => 4 | 0 => 0 | 105 => 71 | 21 => 21 | 5 => 5 | 46 => 89 | 119 => 92 | 139 => 95 | 138 => 94 | 146 => 107 | 51 => 99 | n => n, fun | 1 => 0 | 3 => 1 | 4 => 2 | n => n⟩
theorem Tryd.laysSplit : Go.Proofs.Lays.n146 Tryd.prog Tryd.laysSplit_ren := {
  mixed := by kernel_rfl
  f138 := Tryd.func65.trans (congrArg some (by kernel_rfl))
  f143 := Tryd.func66.trans (congrArg some (by kernel_rfl))
  f146 := Tryd.func39.trans (congrArg some (by kernel_rfl))
  f195 := Tryd.func74.trans (congrArg some (by kernel_rfl))
  f197 := Tryd.func61.trans (congrArg some (by kernel_rfl))
  f217 := Tryd.func14.trans (congrArg some (by kernel_rfl))
  f218 := Tryd.func75.trans (congrArg some (by kernel_rfl))
  f219 := Tryd.func76.trans (congrArg some (by kernel_rfl))
  f221 := Tryd.func53.trans (congrArg some (by kernel_rfl))
  f224 := Tryd.func69.trans (congrArg some (by kernel_rfl))
  f225 := Tryd.func70.trans (congrArg some (by kernel_rfl))
  f260 := Tryd.func73.trans (congrArg some (by kernel_rfl))
  f266 := Tryd.func22.trans (congrArg some (by kernel_rfl))
  f267 := Tryd.func80.trans (congrArg some (by kernel_rfl))
  f268 := Tryd.func64.trans (congrArg some (by kernel_rfl))
  f314 := Tryd.func84.trans (congrArg some (by kernel_rfl))
  t0 := Tryd.underlying0
  a0 := Tryd.isAgg0
  z0 := Tryd.sizeOf0
  v0 := Tryd.zeroValue0
  t3 := Tryd.underlying3
  a3 := Tryd.isAgg3
  z3 := Tryd.sizeOf3
  v3 := Tryd.zeroValue3
  t4 := Tryd.underlying4
  a4 := Tryd.isAgg4
  z4 := Tryd.sizeOf4
  v4 := Tryd.zeroValue4
  t5 := Tryd.underlying5
  a5 := Tryd.isAgg5
  z5 := Tryd.sizeOf5
  v5 := Tryd.zeroValue5
  t9 := Tryd.underlying9
  a9 := Tryd.isAgg9
  z9 := Tryd.sizeOf9
  v9 := Tryd.zeroValue9
  t21 := Tryd.underlying21
  a21 := Tryd.isAgg21
  z21 := Tryd.sizeOf21
  v21 := Tryd.zeroValue21
  t31 := Tryd.underlying65
  a31 := Tryd.isAgg65
  z31 := Tryd.sizeOf65
  v31 := Tryd.zeroValue65
  t46 := Tryd.underlying89
  a46 := Tryd.isAgg89
  z46 := Tryd.sizeOf89
  v46 := Tryd.zeroValue89
  t51 := Tryd.underlying99
  a51 := Tryd.isAgg99
  z51 := Tryd.sizeOf99
  v51 := Tryd.zeroValue99
  t105 := Tryd.underlying71
  a105 := Tryd.isAgg71
  z105 := Tryd.sizeOf71
  v105 := Tryd.zeroValue71
  t119 := Tryd.underlying92
  a119 := Tryd.isAgg92
  z119 := Tryd.sizeOf92
  t138 := Tryd.underlying94
  a138 := Tryd.isAgg94
  z138 := Tryd.sizeOf94
  v138 := Tryd.zeroValue94
  t139 := Tryd.underlying95
  a139 := Tryd.isAgg95
  z139 := Tryd.sizeOf95
  v139 := Tryd.zeroValue95
  t146 := Tryd.underlying107
  a146 := Tryd.isAgg107
  z146 := Tryd.sizeOf107
  v146 := Tryd.zeroValue107
  g1 := by kernel_rfl
  g3 := by kernel_rfl
  g4 := by kernel_rfl }
def Tryd.laysJoin_ren : Go.Shelf.Ren := ⟨fun | 156 => 43 | 165 => 55 | 166 => 27 | 169 => 29 | 240 => 37 | 241 => 67 | 276 => 51 | 277 => 77 | n => n, fun | 31 => 65 | 9 => 9 | 3 => 3 | 4 => 4 | 0 => 0 | 20 => 20 | 72 => 54 | 76 => 57 | 70 => 52 | 37 => 35 | 75 => 56 | 127 => 64 | 164 => 80 | 5 => 5 | 80 => 60 | n => n, fun | n => n⟩
theorem Tryd.laysJoin : Go.Proofs.Lays.n156 Tryd.prog Tryd.laysJoin_ren := {
  mixed := by kernel_rfl
  f156 := Tryd.func43.trans (congrArg some (by kernel_rfl))
  f165 := Tryd.func55.trans (congrArg some (by kernel_rfl))
  f166 := Tryd.func27.trans (congrArg some (by kernel_rfl))
  f169 := Tryd.func29.trans (congrArg some (by kernel_rfl))
  f240 := Tryd.func37.trans (congrArg some (by kernel_rfl))
  f241 := Tryd.func67.trans (congrArg some (by kernel_rfl))
  f276 := Tryd.func51.trans (congrArg some (by kernel_rfl))
  f277 := Tryd.func77.trans (congrArg some (by kernel_rfl))
  t0 := Tryd.underlying0
  a0 := Tryd.isAgg0
  z0 := Tryd.sizeOf0
  v0 := Tryd.zeroValue0
  t3 := Tryd.underlying3
  a3 := Tryd.isAgg3
  z3 := Tryd.sizeOf3
  v3 := Tryd.zeroValue3
  t4 := Tryd.underlying4
  a4 := Tryd.isAgg4
  z4 := Tryd.sizeOf4
  v4 := Tryd.zeroValue4
  t9 := Tryd.underlying9
  a9 := Tryd.isAgg9
  z9 := Tryd.sizeOf9
  v9 := Tryd.zeroValue9
  t20 := Tryd.underlying20
  a20 := Tryd.isAgg20
  z20 := Tryd.sizeOf20
  v20 := Tryd.zeroValue20
  t31 := Tryd.underlying65
  a31 := Tryd.isAgg65
  z31 := Tryd.sizeOf65
  v31 := Tryd.zeroValue65
  t37 := Tryd.underlying35
  a37 := Tryd.isAgg35
  z37 := Tryd.sizeOf35
  v37 := Tryd.zeroValue35
  t70 := Tryd.underlying52
  a70 := Tryd.isAgg52
  z70 := Tryd.sizeOf52
  v70 := Tryd.zeroValue52
  t72 := Tryd.underlying54
  a72 := Tryd.isAgg54
  z72 := Tryd.sizeOf54
  v72 := Tryd.zeroValue54
  t75 := Tryd.underlying56
  a75 := Tryd.isAgg56
  z75 := Tryd.sizeOf56
  v75 := Tryd.zeroValue56
  t76 := Tryd.underlying57
  a76 := Tryd.isAgg57
  z76 := Tryd.sizeOf57
  v76 := Tryd.zeroValue57
  t127 := Tryd.underlying64
  a127 := Tryd.isAgg64
  z127 := Tryd.sizeOf64
  v127 := Tryd.zeroValue64
  t164 := Tryd.underlying80
  a164 := Tryd.isAgg80
  z164 := Tryd.sizeOf80
  v164 := Tryd.zeroValue80 }
theorem Tryd.extraRepl : Builder.Extra Tryd.prog Tryd.laysRepl_ren where
  sizeBuilder := by kernel_rfl
  liesBuilder := by kernel_rfl
  t5 := Tryd.laysLower.t5
  a5 := Tryd.laysLower.a5
  z5 := Tryd.laysLower.z5
  v5 := Tryd.laysLower.v5
  infoByte := by kernel_rfl
  cellsByte := by kernel_rfl
  sizeByte := by kernel_rfl
  neB5 := by decide
theorem Tryd.extraJoin : Builder.Extra Tryd.prog Tryd.laysJoin_ren where
  sizeBuilder := by kernel_rfl
  liesBuilder := by kernel_rfl
  t5 := Tryd.laysLower.t5
  a5 := Tryd.laysLower.a5
  z5 := Tryd.laysLower.z5
  v5 := Tryd.laysLower.v5
  infoByte := by kernel_rfl
  cellsByte := by kernel_rfl
  sizeByte := by kernel_rfl
  neB5 := by decide
end Go.Proofs
namespace T
open Go Go.Aes Go.Proofs Go.RowKit

/-! ### what is split, put in place, joined -/
/-- MaxLen's cell holds a number -/
def Tb4 (B : Nat) (W : World) : Prop := Tb3 B W ∧ ∃ m, W.cell? ⟨0, 0, none⟩ = some (.int .i64 m)
theorem tbOk4 : TbOk Tb4 := ⟨fun B W w ⟨h0, m, h1⟩ hb hB => by
  have h3 : 3 < B := h0.2.1
  exact ⟨tbOk3.mono B W w h0 hb hB, m, by rw [World.cell?_of_block (hb.block 0 (by omega))]; exact h1⟩⟩

def strsOf : List AV → Option (List (List UInt8))
  | [] => some []
  | .str s :: l => (strsOf l).map (s :: ·)
  | _ => none
theorem strsOf_eq : ∀ {l : List AV} {xs : List (List UInt8)}, strsOf l = some xs → l = xs.map .str
  | [], xs, h => by
    simp only [strsOf, Option.some.injEq] at h
    subst h; rfl
  | a :: l, xs, h => by
    cases a <;> simp only [strsOf] at h <;> first | (cases h; done) | skip
    obtain ⟨ys, h1, rfl⟩ := Option.map_eq_some_iff.1 h
    rw [strsOf_eq h1]; rfl
theorem strsOf_map : ∀ xs : List (List UInt8), strsOf (xs.map .str) = some xs
  | [] => rfl
  | s :: xs => by
    show (strsOf (xs.map .str)).map (s :: ·) = _
    rw [strsOf_map xs]; rfl

def oRA (al : List AV) (H : AH) : Option Res :=
  match al with
  | [.str s, .str old, .str new] => bif s.length.blt 4294967281 && Nat.blt 0 old.length && (s.length + Lib.count s old * new.length).ble 140737488355328 then some (.val (.str (Lib.replaceAll s old new)) H) else none
  | _ => none
def oSP (al : List AV) (H : AH) : Option Res :=
  match al with
  | [.str s, .str sep] => bif s.length.blt 4294967281 && Nat.blt 0 sep.length then
      (H.new (.cells ((Lib.split s sep).map .str))).map fun x => .val (.hsl x.1 0 (Lib.split s sep).length (Lib.split s sep).length 1 true) x.2 else none
  | _ => none
def oJN (al : List AV) (H : AH) : Option Res :=
  match al with
  | [.hsl i o n c sz g, .str sep] =>
    match H.get i with
    | some (.cells cs) => (strsOf ((cs.drop o).take n)).bind fun xs => bif xs.length.beq n && n.ble 140737488355328 && (Lib.join xs sep).length.ble 140737488355328 then some (.val (.str (Lib.join xs sep)) H) else none
    | _ => none
  | _ => none

section
variable {B : Nat} {W w : World} {K : KC} {H : AH} {r : Res} {al : List AV} {vs : List Value}
theorem oRA_ok (ht : Tb4 B W) (h : oRA al H = some r) (hw : RW B W K H w) (hl : RL K al vs) : Calls Tryd.prog 40 vs.toArray w (CPost B W K H r) := by
  unfold oRA at h
  split at h <;> first | (cases h; done) | skip
  rename_i s old new
  cases hs : (s.length.blt 4294967281 && Nat.blt 0 old.length && (s.length + Lib.count s old * new.length).ble 140737488355328) with
  | false => simp only [hs, cond_false] at h; cases h
  | true =>
    simp only [hs, cond_true, Option.some.injEq] at h
    subst h
    obtain ⟨vs', rfl, h2⟩ := str_vs hl
    obtain ⟨vs', rfl, h3⟩ := str_vs h2
    obtain ⟨vs', rfl, h4⟩ := str_vs h3
    obtain rfl := h4.nil_inv
    simp only [Bool.and_eq_true, Nat.blt_eq, Nat.ble_eq] at hs
    obtain ⟨⟨h5, h6⟩, h7⟩ := hs
    obtain ⟨_, m, hm⟩ := tbOk4.at_ ht hw
    exact call_below (fun K => .str _) hw (Any.strings_ReplaceAll Tryd.laysRepl Tryd.extraRepl ⟨s.toArray⟩ ⟨old.toArray⟩ ⟨new.toArray⟩ m w (by simpa [ByteArray.size] using h5) hm (show 1 ≤ old.length by omega) (by simpa [ByteArray.size] using h7))
theorem oSP_ok (ht : Tb4 B W) (h : oSP al H = some r) (hw : RW B W K H w) (hl : RL K al vs) : Calls Tryd.prog 39 vs.toArray w (CPost B W K H r) := by
  unfold oSP at h
  split at h <;> first | (cases h; done) | skip
  rename_i s sep
  cases hs : (s.length.blt 4294967281 && Nat.blt 0 sep.length) with
  | false => simp only [hs, cond_false] at h; cases h
  | true =>
    simp only [hs, cond_true] at h
    obtain ⟨⟨i, H'⟩, hn, rfl⟩ := Option.map_eq_some_iff.1 h
    obtain ⟨vs', rfl, h2⟩ := str_vs hl
    obtain ⟨vs', rfl, h3⟩ := str_vs h2
    obtain rfl := h3.nil_inv
    simp only [Bool.and_eq_true, Nat.blt_eq] at hs
    obtain ⟨h5, h6⟩ := hs
    obtain ⟨_, m, hm⟩ := tbOk4.at_ ht hw
    have h6' : 1 ≤ (⟨sep.toArray⟩ : ByteArray).size := (show 1 ≤ sep.length by omega)
    refine (Any.strings_Split Tryd.laysSplit (by kernel_rfl) ⟨s.toArray⟩ ⟨sep.toArray⟩ m w (by simpa [ByteArray.size] using h5) hm h6').mono ?_
    rintro e w' ⟨rfl, rfl⟩
    have hlen := Lib.splitB_all (⟨sep.toArray⟩ : ByteArray) h6' 0 _ (⟨s.toArray⟩ : ByteArray) rfl
    have hdat := Lib.splitB_data (⟨sep.toArray⟩ : ByteArray) 0 (Lib.countB ⟨s.toArray⟩ ⟨sep.toArray⟩) (⟨s.toArray⟩ : ByteArray)
    have hsp : (Lib.splitB (⟨sep.toArray⟩ : ByteArray) 0 (Lib.countB ⟨s.toArray⟩ ⟨sep.toArray⟩) ⟨s.toArray⟩).map (·.data.toList) = Lib.split s sep := hdat
    rw [← hlen]
    generalize Lib.splitB (⟨sep.toArray⟩ : ByteArray) 0 (Lib.countB ⟨s.toArray⟩ ⟨sep.toArray⟩) ⟨s.toArray⟩ = P at *
    have hl2 : (Lib.split s sep).length = P.length := by rw [← hsp, List.length_map]
    rw [hl2]
    obtain ⟨hi1, hnx, _, _⟩ := AH.new_spec hn
    obtain ⟨hw1, fits, hg, hmu, _, hi⟩ := hw.vnew hn
    refine ⟨K.setμ i (w.heap.size, P.length), .hsl i 0 0 _ _ _ w.heap.size P.length 1 true (by simp [KC.setμ]) (Nat.le_refl _) (Nat.le_refl _) (fun _ => by omega) (.inl rfl), ?_, ⟨KC.le_setμ hmu, fits.nx, fun j hj => ?_⟩⟩
    · refine hw1.place hg (by simp) hmu hi _ P.length (fun K' hK b z hb => ?_)
      subst hK
      simp [KC.setμ] at hb
      obtain ⟨rfl, rfl⟩ := hb
      refine ⟨(P.map Value.string).toArray, Tryd.laysSplit_ren.t 9, by show (w.heap.push _)[w.heap.size]? = _; simp, by simp, by simp [hl2], fun j a x e e' => ?_, fun o => hw1.noF o⟩
      rw [← hsp] at e
      simp only [List.map_map, List.getElem?_map, Option.map_eq_some_iff] at e
      obtain ⟨p, hp, rfl⟩ := e
      simp only [List.getElem?_toArray, List.getElem?_map, hp, Option.map_some, Option.some.injEq] at e'
      subst e'
      have := RV.str (K := K.setμ i (w.heap.size, P.length)) p.data.toList
      simpa using this
    · have : j ≠ i := by omega
      simp [KC.setμ, this]
theorem oJN_ok (ht : Tb4 B W) (h : oJN al H = some r) (hw : RW B W K H w) (hl : RL K al vs) : Calls Tryd.prog 43 vs.toArray w (CPost B W K H r) := by
  unfold oJN at h
  split at h <;> first | (cases h; done) | skip
  rename_i i o n c sz g sep
  split at h <;> first | (cases h; done) | skip
  rename_i cs hg
  obtain ⟨xs, hx, h⟩ := Option.bind_eq_some_iff.1 h
  cases hs : (xs.length.beq n && n.ble 140737488355328 && (Lib.join xs sep).length.ble 140737488355328) with
  | false => simp only [hs, cond_false] at h; cases h
  | true =>
    simp only [hs, cond_true, Option.some.injEq] at h
    subst h
    obtain ⟨v, vs', rfl, hv, h2⟩ := hl.cons_inv
    obtain ⟨vs', rfl, h3⟩ := str_vs h2
    obtain rfl := h3.nil_inv
    simp only [Bool.and_eq_true, Nat.beq_eq, Nat.ble_eq] at hs
    obtain ⟨⟨h5, h6⟩, h7⟩ := hs
    have hxs := strsOf_eq hx
    cases hv with
    | hsl _ _ o' _ _ c' b z _ _ hm hn hc hz ho =>
    obtain ⟨arr, ty, a1, a2, a3, a4, _⟩ := hw.obj i _ hg b z hm
    have hcell : ∀ (j : Nat) x, (xs.map fun l => (⟨l.toArray⟩ : ByteArray))[j]? = some x → w.cell? ⟨b, o' + j, none⟩ = some (.string x) := by
      intro j x hj
      simp only [List.getElem?_map, Option.map_eq_some_iff] at hj
      obtain ⟨l, hj, rfl⟩ := hj
      have hjn : j < n := by
        have := (List.getElem?_eq_some_iff.1 hj).1
        omega
      have ho' : o' = o := by
        rcases ho with h | h
        · exact h
        · omega
      have e1 : ((cs.drop o).take n)[j]? = some (.str l) := by rw [hxs, List.getElem?_map, hj]; rfl
      rw [List.getElem?_take, if_pos hjn, List.getElem?_drop] at e1
      have hlt := (List.getElem?_eq_some_iff.1 e1).1
      obtain ⟨y, hy⟩ : ∃ y, arr[o + j]? = some y := ⟨_, Array.getElem?_eq_getElem (by omega)⟩
      have h8 := (a4 _ _ _ e1 hy).str_inv
      subst h8
      subst ho'
      unfold World.cell?
      simp only [a1]
      exact hy
    have hj := Any.strings_Join Tryd.laysJoin Tryd.extraJoin b o' c' (xs.map fun l => (⟨l.toArray⟩ : ByteArray)) ⟨sep.toArray⟩ w hcell (Array.getElem?_eq_some_iff.1 a1).1 (by rw [List.length_map]; omega) (by rw [List.length_map]; omega)
      (by simpa [List.map_map, Function.comp_def] using h7)
    rw [List.length_map, h5] at hj
    refine call_below (fun K => .str _) hw (hj.mono ?_)
    rintro e w' ⟨rfl, hb⟩
    refine ⟨?_, hb⟩
    simp [List.map_map, Function.comp_def]
end

def D4 (g : Nat) : Bool := g.beq 39 || g.beq 40 || g.beq 43
def OBL : CallF := fun g al H => bif g.beq 39 then oSP al H else bif g.beq 40 then oRA al H else bif g.beq 43 then oJN al H else none
theorem OBL_cases {g : Nat} {al : List AV} {H : AH} {r : Res} (h : OBL g al H = some r) : (g = 39 ∧ oSP al H = some r) ∨ (g = 40 ∧ oRA al H = some r) ∨ (g = 43 ∧ oJN al H = some r) := by
  unfold OBL at h
  cases h1 : g.beq 39 with
  | true => rw [h1] at h; exact .inl ⟨by simpa using h1, h⟩
  | false =>
  cases h2 : g.beq 40 with
  | true => rw [h1, h2] at h; exact .inr (.inl ⟨by simpa using h2, h⟩)
  | false =>
  cases h3 : g.beq 43 with
  | true => rw [h1, h2, h3] at h; exact .inr (.inr ⟨by simpa using h3, h⟩)
  | false => rw [h1, h2, h3] at h; cases h
theorem OBL_ok (B : Nat) (W : World) (ht : Tb4 B W) : CallOk Tryd.prog B W OBL := by
  refine ⟨fun g al H r h => ?_, fun g al H r h K w vs hw hl => ?_⟩
  · rcases OBL_cases h with ⟨rfl, _⟩ | ⟨rfl, _⟩ | ⟨rfl, _⟩
    · exact ⟨_, Tryd.func39, by kernel_rfl, by kernel_rfl⟩
    · exact ⟨_, Tryd.func40, by kernel_rfl, by kernel_rfl⟩
    · exact ⟨_, Tryd.func43, by kernel_rfl, by kernel_rfl⟩
  · rcases OBL_cases h with ⟨rfl, h⟩ | ⟨rfl, h⟩ | ⟨rfl, h⟩
    · exact oSP_ok ht h hw hl
    · exact oRA_ok ht h hw hl
    · exact oJN_ok ht h hw hl
noncomputable def OF4 : CallF := orO D4 OBL OF3
theorem OF4_ok (B : Nat) (W : World) (ht : Tb4 B W) : CallOk Tryd.prog B W OF4 := orO_ok (OBL_ok B W ht) (OF3_ok B W ht.1)
theorem OF3_4 : Sub OF3 OF4 := by
  intro g al H r h
  show (bif D4 g then OBL g al H else OF3 g al H) = some r
  cases hg : D4 g with
  | false => exact h
  | true =>
    have hc : g = 39 ∨ g = 40 ∨ g = 43 := by simpa [D4, or_assoc] using hg
    have : OF3 g al H = none := by rcases hc with rfl | rfl | rfl <;> rfl
    rw [this] at h; cases h
end T
