import Derived.Test.YtpndehigidcchaaGreatDoorOrD
import Derived.Shelf.Strings.Replace
import Derived.Shelf.Strings.Split
import Derived.Shelf.Strings.OnBuilder
set_option linter.all false
set_option linter.unusedVariables false
set_option maxRecDepth 10000
namespace Go.Proofs
open Go.RowKit Go.Shelf Go.Lib
def Tryz.laysRepl_ren : Go.Shelf.Ren := ⟨fun | 155 => 49 | 154 => 66 | 138 => 82 | 165 => 67 | 143 => 83 | 166 => 33 | 197 => 78 | 169 => 35 | 195 => 91 | 218 => 92 | 240 => 46 | 241 => 84 | 219 => 93 | 260 => 90 | 276 => 63 | 277 => 94 | 217 => 15 | 225 => 87 | 224 => 86 | 267 => 97 | 266 => 28 | 314 => 101 | n => n, fun | 9 => 9 | 3 => 3 | 4 => 4 | 72 => 60 | 0 => 0 | 76 => 63 | 105 => 77 | 21 => 21 | 5 => 5 | 70 => 57 | 20 => 20 | 37 => 58 | 75 => 62 | 127 => 70 | 164 => 87 | 46 => 96 | 119 => 103 | 139 => 106 | 138 => 105 | 146 => 118 | 51 => 110 | 80 => 65 | n => n, fun | 1 => 0 | 3 => 1 | 4 => 2 | n => n⟩
theorem Tryz.laysRepl : Go.Proofs.Lays.n155 Tryz.prog Tryz.laysRepl_ren := {
  mixed := by kernel_rfl
  f138 := Tryz.func82.trans (congrArg some (by kernel_rfl))
  f143 := Tryz.func83.trans (congrArg some (by kernel_rfl))
  f154 := Tryz.func66.trans (congrArg some (by kernel_rfl))
  f155 := Tryz.func49.trans (congrArg some (by kernel_rfl))
  f165 := Tryz.func67.trans (congrArg some (by kernel_rfl))
  f166 := Tryz.func33.trans (congrArg some (by kernel_rfl))
  f169 := Tryz.func35.trans (congrArg some (by kernel_rfl))
  f195 := Tryz.func91.trans (congrArg some (by kernel_rfl))
  f197 := Tryz.func78.trans (congrArg some (by kernel_rfl))
  f217 := Tryz.func15.trans (congrArg some (by kernel_rfl))
  f218 := Tryz.func92.trans (congrArg some (by kernel_rfl))
  f219 := Tryz.func93.trans (congrArg some (by kernel_rfl))
  f224 := Tryz.func86.trans (congrArg some (by kernel_rfl))
  f225 := Tryz.func87.trans (congrArg some (by kernel_rfl))
  f240 := Tryz.func46.trans (congrArg some (by kernel_rfl))
  f241 := Tryz.func84.trans (congrArg some (by kernel_rfl))
  f260 := Tryz.func90.trans (congrArg some (by kernel_rfl))
  f266 := Tryz.func28.trans (congrArg some (by kernel_rfl))
  f267 := Tryz.func97.trans (congrArg some (by kernel_rfl))
  f276 := Tryz.func63.trans (congrArg some (by kernel_rfl))
  f277 := Tryz.func94.trans (congrArg some (by kernel_rfl))
  f314 := Tryz.func101.trans (congrArg some (by kernel_rfl))
  t0 := Tryz.underlying0
  a0 := Tryz.isAgg0
  z0 := Tryz.sizeOf0
  v0 := Tryz.zeroValue0
  t3 := Tryz.underlying3
  a3 := Tryz.isAgg3
  z3 := Tryz.sizeOf3
  v3 := Tryz.zeroValue3
  t4 := Tryz.underlying4
  a4 := Tryz.isAgg4
  z4 := Tryz.sizeOf4
  v4 := Tryz.zeroValue4
  t5 := Tryz.underlying5
  a5 := Tryz.isAgg5
  z5 := Tryz.sizeOf5
  v5 := Tryz.zeroValue5
  t9 := Tryz.underlying9
  a9 := Tryz.isAgg9
  z9 := Tryz.sizeOf9
  v9 := Tryz.zeroValue9
  t20 := Tryz.underlying20
  a20 := Tryz.isAgg20
  z20 := Tryz.sizeOf20
  v20 := Tryz.zeroValue20
  t21 := Tryz.underlying21
  a21 := Tryz.isAgg21
  z21 := Tryz.sizeOf21
  v21 := Tryz.zeroValue21
  t37 := Tryz.underlying58
  a37 := Tryz.isAgg58
  z37 := Tryz.sizeOf58
  v37 := Tryz.zeroValue58
  t46 := Tryz.underlying96
  a46 := Tryz.isAgg96
  z46 := Tryz.sizeOf96
  v46 := Tryz.zeroValue96
  t51 := Tryz.underlying110
  a51 := Tryz.isAgg110
  z51 := Tryz.sizeOf110
  v51 := Tryz.zeroValue110
  t70 := Tryz.underlying57
  a70 := Tryz.isAgg57
  z70 := Tryz.sizeOf57
  v70 := Tryz.zeroValue57
  t72 := Tryz.underlying60
  a72 := Tryz.isAgg60
  z72 := Tryz.sizeOf60
  v72 := Tryz.zeroValue60
  t75 := Tryz.underlying62
  a75 := Tryz.isAgg62
  z75 := Tryz.sizeOf62
  v75 := Tryz.zeroValue62
  t76 := Tryz.underlying63
  a76 := Tryz.isAgg63
  z76 := Tryz.sizeOf63
  v76 := Tryz.zeroValue63
  t105 := Tryz.underlying77
  a105 := Tryz.isAgg77
  z105 := Tryz.sizeOf77
  v105 := Tryz.zeroValue77
  t119 := Tryz.underlying103
  a119 := Tryz.isAgg103
  z119 := Tryz.sizeOf103
  t127 := Tryz.underlying70
  a127 := Tryz.isAgg70
  z127 := Tryz.sizeOf70
  v127 := Tryz.zeroValue70
  t138 := Tryz.underlying105
  a138 := Tryz.isAgg105
  z138 := Tryz.sizeOf105
  v138 := Tryz.zeroValue105
  t139 := Tryz.underlying106
  a139 := Tryz.isAgg106
  z139 := Tryz.sizeOf106
  v139 := Tryz.zeroValue106
  t146 := Tryz.underlying118
  a146 := Tryz.isAgg118
  z146 := Tryz.sizeOf118
  v146 := Tryz.zeroValue118
  t164 := Tryz.underlying87
  a164 := Tryz.isAgg87
  z164 := Tryz.sizeOf87
  v164 := Tryz.zeroValue87
  g1 := by kernel_rfl
  g3 := by kernel_rfl
  g4 := by kernel_rfl }
def Tryz.laysSplit_ren : Go.Shelf.Ren := ⟨fun | 146 => 48 | 221 => 65 | 268 => 81 | 138 => 82 | 143 => 83 | 195 => 91 | 197 => 78 | 218 => 92 | 219 => 93 | 260 => 90 | 217 => 15 | 225 => 87 | 224 => 86 | 267 => 97 | 266 => 28 | 314 => 101 | n => n, fun | 9 => 9 | 31 => 71 | 3 => 3 | 4 => 4 | 0 => 0 | 105 => 77 | 21 => 21 | 5 => 5 | 46 => 96 | 119 => 103 | 139 => 106 | 138 => 105 | 146 => 118 | 51 => 110 | n => n, fun | 1 => 0 | 3 => 1 | 4 => 2 | n => n⟩
theorem Tryz.laysSplit : Go.Proofs.Lays.n146 Tryz.prog Tryz.laysSplit_ren := {
  mixed := by kernel_rfl
  f138 := Tryz.func82.trans (congrArg some (by kernel_rfl))
  f143 := Tryz.func83.trans (congrArg some (by kernel_rfl))
  f146 := Tryz.func48.trans (congrArg some (by kernel_rfl))
  f195 := Tryz.func91.trans (congrArg some (by kernel_rfl))
  f197 := Tryz.func78.trans (congrArg some (by kernel_rfl))
  f217 := Tryz.func15.trans (congrArg some (by kernel_rfl))
  f218 := Tryz.func92.trans (congrArg some (by kernel_rfl))
  f219 := Tryz.func93.trans (congrArg some (by kernel_rfl))
  f221 := Tryz.func65.trans (congrArg some (by kernel_rfl))
  f224 := Tryz.func86.trans (congrArg some (by kernel_rfl))
  f225 := Tryz.func87.trans (congrArg some (by kernel_rfl))
  f260 := Tryz.func90.trans (congrArg some (by kernel_rfl))
  f266 := Tryz.func28.trans (congrArg some (by kernel_rfl))
  f267 := Tryz.func97.trans (congrArg some (by kernel_rfl))
  f268 := Tryz.func81.trans (congrArg some (by kernel_rfl))
  f314 := Tryz.func101.trans (congrArg some (by kernel_rfl))
  t0 := Tryz.underlying0
  a0 := Tryz.isAgg0
  z0 := Tryz.sizeOf0
  v0 := Tryz.zeroValue0
  t3 := Tryz.underlying3
  a3 := Tryz.isAgg3
  z3 := Tryz.sizeOf3
  v3 := Tryz.zeroValue3
  t4 := Tryz.underlying4
  a4 := Tryz.isAgg4
  z4 := Tryz.sizeOf4
  v4 := Tryz.zeroValue4
  t5 := Tryz.underlying5
  a5 := Tryz.isAgg5
  z5 := Tryz.sizeOf5
  v5 := Tryz.zeroValue5
  t9 := Tryz.underlying9
  a9 := Tryz.isAgg9
  z9 := Tryz.sizeOf9
  v9 := Tryz.zeroValue9
  t21 := Tryz.underlying21
  a21 := Tryz.isAgg21
  z21 := Tryz.sizeOf21
  v21 := Tryz.zeroValue21
  t31 := Tryz.underlying71
  a31 := Tryz.isAgg71
  z31 := Tryz.sizeOf71
  v31 := Tryz.zeroValue71
  t46 := Tryz.underlying96
  a46 := Tryz.isAgg96
  z46 := Tryz.sizeOf96
  v46 := Tryz.zeroValue96
  t51 := Tryz.underlying110
  a51 := Tryz.isAgg110
  z51 := Tryz.sizeOf110
  v51 := Tryz.zeroValue110
  t105 := Tryz.underlying77
  a105 := Tryz.isAgg77
  z105 := Tryz.sizeOf77
  v105 := Tryz.zeroValue77
  t119 := Tryz.underlying103
  a119 := Tryz.isAgg103
  z119 := Tryz.sizeOf103
  t138 := Tryz.underlying105
  a138 := Tryz.isAgg105
  z138 := Tryz.sizeOf105
  v138 := Tryz.zeroValue105
  t139 := Tryz.underlying106
  a139 := Tryz.isAgg106
  z139 := Tryz.sizeOf106
  v139 := Tryz.zeroValue106
  t146 := Tryz.underlying118
  a146 := Tryz.isAgg118
  z146 := Tryz.sizeOf118
  v146 := Tryz.zeroValue118
  g1 := by kernel_rfl
  g3 := by kernel_rfl
  g4 := by kernel_rfl }
def Tryz.laysJoin_ren : Go.Shelf.Ren := ⟨fun | 156 => 52 | 165 => 67 | 166 => 33 | 169 => 35 | 240 => 46 | 241 => 84 | 276 => 63 | 277 => 94 | n => n, fun | 31 => 71 | 9 => 9 | 3 => 3 | 4 => 4 | 0 => 0 | 20 => 20 | 72 => 60 | 76 => 63 | 70 => 57 | 37 => 58 | 75 => 62 | 127 => 70 | 164 => 87 | 5 => 5 | 80 => 65 | n => n, fun | n => n⟩
theorem Tryz.laysJoin : Go.Proofs.Lays.n156 Tryz.prog Tryz.laysJoin_ren := {
  mixed := by kernel_rfl
  f156 := Tryz.func52.trans (congrArg some (by kernel_rfl))
  f165 := Tryz.func67.trans (congrArg some (by kernel_rfl))
  f166 := Tryz.func33.trans (congrArg some (by kernel_rfl))
  f169 := Tryz.func35.trans (congrArg some (by kernel_rfl))
  f240 := Tryz.func46.trans (congrArg some (by kernel_rfl))
  f241 := Tryz.func84.trans (congrArg some (by kernel_rfl))
  f276 := Tryz.func63.trans (congrArg some (by kernel_rfl))
  f277 := Tryz.func94.trans (congrArg some (by kernel_rfl))
  t0 := Tryz.underlying0
  a0 := Tryz.isAgg0
  z0 := Tryz.sizeOf0
  v0 := Tryz.zeroValue0
  t3 := Tryz.underlying3
  a3 := Tryz.isAgg3
  z3 := Tryz.sizeOf3
  v3 := Tryz.zeroValue3
  t4 := Tryz.underlying4
  a4 := Tryz.isAgg4
  z4 := Tryz.sizeOf4
  v4 := Tryz.zeroValue4
  t9 := Tryz.underlying9
  a9 := Tryz.isAgg9
  z9 := Tryz.sizeOf9
  v9 := Tryz.zeroValue9
  t20 := Tryz.underlying20
  a20 := Tryz.isAgg20
  z20 := Tryz.sizeOf20
  v20 := Tryz.zeroValue20
  t31 := Tryz.underlying71
  a31 := Tryz.isAgg71
  z31 := Tryz.sizeOf71
  v31 := Tryz.zeroValue71
  t37 := Tryz.underlying58
  a37 := Tryz.isAgg58
  z37 := Tryz.sizeOf58
  v37 := Tryz.zeroValue58
  t70 := Tryz.underlying57
  a70 := Tryz.isAgg57
  z70 := Tryz.sizeOf57
  v70 := Tryz.zeroValue57
  t72 := Tryz.underlying60
  a72 := Tryz.isAgg60
  z72 := Tryz.sizeOf60
  v72 := Tryz.zeroValue60
  t75 := Tryz.underlying62
  a75 := Tryz.isAgg62
  z75 := Tryz.sizeOf62
  v75 := Tryz.zeroValue62
  t76 := Tryz.underlying63
  a76 := Tryz.isAgg63
  z76 := Tryz.sizeOf63
  v76 := Tryz.zeroValue63
  t127 := Tryz.underlying70
  a127 := Tryz.isAgg70
  z127 := Tryz.sizeOf70
  v127 := Tryz.zeroValue70
  t164 := Tryz.underlying87
  a164 := Tryz.isAgg87
  z164 := Tryz.sizeOf87
  v164 := Tryz.zeroValue87 }
theorem Tryz.extraRepl : Builder.Extra Tryz.prog Tryz.laysRepl_ren where
  sizeBuilder := by kernel_rfl
  liesBuilder := by kernel_rfl
  t5 := Tryz.laysLower.t5
  a5 := Tryz.laysLower.a5
  z5 := Tryz.laysLower.z5
  v5 := Tryz.laysLower.v5
  infoByte := by kernel_rfl
  cellsByte := by kernel_rfl
  sizeByte := by kernel_rfl
  neB5 := by decide
theorem Tryz.extraJoin : Builder.Extra Tryz.prog Tryz.laysJoin_ren where
  sizeBuilder := by kernel_rfl
  liesBuilder := by kernel_rfl
  t5 := Tryz.laysLower.t5
  a5 := Tryz.laysLower.a5
  z5 := Tryz.laysLower.z5
  v5 := Tryz.laysLower.v5
  infoByte := by kernel_rfl
  cellsByte := by kernel_rfl
  sizeByte := by kernel_rfl
  neB5 := by decide
end Go.Proofs
namespace T
open Go Go.Aes Go.Proofs Go.RowKit
def Tb4 (B : Nat) (W : World) : Prop := Tb3 B W ∧ ∃ m, W.cell? ⟨0, 0, none⟩ = some (.int .i64 m)
theorem tbOk4 : TbOk Tb4 := ⟨fun B W w ⟨h0, m, h1⟩ hb hB => by
  have h3 : 3 < B := h0.2.1
  exact ⟨tbOk3.mono B W w h0 hb hB, m, by rw [World.cell?_of_block (hb.block 0 (by omega))]; exact h1⟩⟩
def strsOf : List AV → Option (List (List UInt8))
  | [] => some []
  | .str s :: l => (strsOf l).map (s :: ·)
  | _ => none
theorem strsOf_eq : ∀ {l : List AV} {xs : List (List UInt8)}, strsOf l = some xs → l = xs.map .str
  | [], xs, h => by
    simp only [strsOf, Option.some.injEq] at h
    subst h; rfl
  | a :: l, xs, h => by
    cases a <;> simp only [strsOf] at h <;> first | (cases h; done) | skip
    obtain ⟨ys, h1, rfl⟩ := Option.map_eq_some_iff.1 h
    rw [strsOf_eq h1]; rfl
theorem strsOf_map : ∀ xs : List (List UInt8), strsOf (xs.map .str) = some xs
  | [] => rfl
  | s :: xs => by
    show (strsOf (xs.map .str)).map (s :: ·) = _
    rw [strsOf_map xs]; rfl
def oRA (al : List AV) (H : AH) : Option Res :=
  match al with
  | [.str s, .str old, .str new] => bif s.length.blt 4294967281 && Nat.blt 0 old.length && (s.length + Lib.count s old * new.length).ble 140737488355328 then some (.val (.str (Lib.replaceAll s old new)) H) else none
  | _ => none
def oSP (al : List AV) (H : AH) : Option Res :=
  match al with
  | [.str s, .str sep] => bif s.length.blt 4294967281 && Nat.blt 0 sep.length then
      (H.new (.cells ((Lib.split s sep).map .str))).map fun x => .val (.hsl x.1 0 (Lib.split s sep).length (Lib.split s sep).length 1 true) x.2 else none
  | _ => none
def oJN (al : List AV) (H : AH) : Option Res :=
  match al with
  | [.hsl i o n c sz g, .str sep] =>
    match H.get i with
    | some (.cells cs) => (strsOf ((cs.drop o).take n)).bind fun xs => bif xs.length.beq n && n.ble 140737488355328 && (Lib.join xs sep).length.ble 140737488355328 then some (.val (.str (Lib.join xs sep)) H) else none
    | _ => none
  | _ => none
section
variable {B : Nat} {W w : World} {K : KC} {H : AH} {r : Res} {al : List AV} {vs : List Value}
theorem oRA_ok (ht : Tb4 B W) (h : oRA al H = some r) (hw : RW B W K H w) (hl : RL K al vs) : Calls Tryz.prog 49 vs.toArray w (CPost B W K H r) := by
  unfold oRA at h
  split at h <;> first | (cases h; done) | skip
  rename_i s old new
  cases hs : (s.length.blt 4294967281 && Nat.blt 0 old.length && (s.length + Lib.count s old * new.length).ble 140737488355328) with
  | false => simp only [hs, cond_false] at h; cases h
  | true =>
    simp only [hs, cond_true, Option.some.injEq] at h
    subst h
    obtain ⟨vs', rfl, h2⟩ := str_vs hl
    obtain ⟨vs', rfl, h3⟩ := str_vs h2
    obtain ⟨vs', rfl, h4⟩ := str_vs h3
    obtain rfl := h4.nil_inv
    simp only [Bool.and_eq_true, Nat.blt_eq, Nat.ble_eq] at hs
    obtain ⟨⟨h5, h6⟩, h7⟩ := hs
    obtain ⟨_, m, hm⟩ := tbOk4.at_ ht hw
    exact call_below (fun K => .str _) hw (Any.strings_ReplaceAll Tryz.laysRepl Tryz.extraRepl ⟨s.toArray⟩ ⟨old.toArray⟩ ⟨new.toArray⟩ m w (by simpa [ByteArray.size] using h5) hm (show 1 ≤ old.length by omega) (by simpa [ByteArray.size] using h7))
theorem oSP_ok (ht : Tb4 B W) (h : oSP al H = some r) (hw : RW B W K H w) (hl : RL K al vs) : Calls Tryz.prog 48 vs.toArray w (CPost B W K H r) := by
  unfold oSP at h
  split at h <;> first | (cases h; done) | skip
  rename_i s sep
  cases hs : (s.length.blt 4294967281 && Nat.blt 0 sep.length) with
  | false => simp only [hs, cond_false] at h; cases h
  | true =>
    simp only [hs, cond_true] at h
    obtain ⟨⟨i, H'⟩, hn, rfl⟩ := Option.map_eq_some_iff.1 h
    obtain ⟨vs', rfl, h2⟩ := str_vs hl
    obtain ⟨vs', rfl, h3⟩ := str_vs h2
    obtain rfl := h3.nil_inv
    simp only [Bool.and_eq_true, Nat.blt_eq] at hs
    obtain ⟨h5, h6⟩ := hs
    obtain ⟨_, m, hm⟩ := tbOk4.at_ ht hw
    have h6' : 1 ≤ (⟨sep.toArray⟩ : ByteArray).size := (show 1 ≤ sep.length by omega)
    refine (Any.strings_Split Tryz.laysSplit (by kernel_rfl) ⟨s.toArray⟩ ⟨sep.toArray⟩ m w (by simpa [ByteArray.size] using h5) hm h6').mono ?_
    rintro e w' ⟨rfl, rfl⟩
    have hlen := Lib.splitB_all (⟨sep.toArray⟩ : ByteArray) h6' 0 _ (⟨s.toArray⟩ : ByteArray) rfl
    have hdat := Lib.splitB_data (⟨sep.toArray⟩ : ByteArray) 0 (Lib.countB ⟨s.toArray⟩ ⟨sep.toArray⟩) (⟨s.toArray⟩ : ByteArray)
    have hsp : (Lib.splitB (⟨sep.toArray⟩ : ByteArray) 0 (Lib.countB ⟨s.toArray⟩ ⟨sep.toArray⟩) ⟨s.toArray⟩).map (·.data.toList) = Lib.split s sep := hdat
    rw [← hlen]
    generalize Lib.splitB (⟨sep.toArray⟩ : ByteArray) 0 (Lib.countB ⟨s.toArray⟩ ⟨sep.toArray⟩) ⟨s.toArray⟩ = P at *
    have hl2 : (Lib.split s sep).length = P.length := by rw [← hsp, List.length_map]
    rw [hl2]
    obtain ⟨hi1, hnx, _, _⟩ := AH.new_spec hn
    obtain ⟨hw1, fits, hg, hmu, _, hi⟩ := hw.vnew hn
    refine ⟨K.setμ i (w.heap.size, P.length), .hsl i 0 0 _ _ _ w.heap.size P.length 1 true (by simp [KC.setμ]) (Nat.le_refl _) (Nat.le_refl _) (fun _ => by omega) (.inl rfl), ?_, ⟨KC.le_setμ hmu, fits.nx, fun j hj => ?_⟩⟩
    · refine hw1.place hg (by simp) hmu hi _ P.length (fun K' hK b z hb => ?_)
      subst hK
      simp [KC.setμ] at hb
      obtain ⟨rfl, rfl⟩ := hb
      refine ⟨(P.map Value.string).toArray, Tryz.laysSplit_ren.t 9, by show (w.heap.push _)[w.heap.size]? = _; simp, by simp, by simp [hl2], fun j a x e e' => ?_, fun o => hw1.noF o⟩
      rw [← hsp] at e
      simp only [List.map_map, List.getElem?_map, Option.map_eq_some_iff] at e
      obtain ⟨p, hp, rfl⟩ := e
      simp only [List.getElem?_toArray, List.getElem?_map, hp, Option.map_some, Option.some.injEq] at e'
      subst e'
      have := RV.str (K := K.setμ i (w.heap.size, P.length)) p.data.toList
      simpa using this
    · have : j ≠ i := by omega
      simp [KC.setμ, this]
theorem oJN_ok (ht : Tb4 B W) (h : oJN al H = some r) (hw : RW B W K H w) (hl : RL K al vs) : Calls Tryz.prog 52 vs.toArray w (CPost B W K H r) := by
  unfold oJN at h
  split at h <;> first | (cases h; done) | skip
  rename_i i o n c sz g sep
  split at h <;> first | (cases h; done) | skip
  rename_i cs hg
  obtain ⟨xs, hx, h⟩ := Option.bind_eq_some_iff.1 h
  cases hs : (xs.length.beq n && n.ble 140737488355328 && (Lib.join xs sep).length.ble 140737488355328) with
  | false => simp only [hs, cond_false] at h; cases h
  | true =>
    simp only [hs, cond_true, Option.some.injEq] at h
    subst h
    obtain ⟨v, vs', rfl, hv, h2⟩ := hl.cons_inv
    obtain ⟨vs', rfl, h3⟩ := str_vs h2
    obtain rfl := h3.nil_inv
    simp only [Bool.and_eq_true, Nat.beq_eq, Nat.ble_eq] at hs
    obtain ⟨⟨h5, h6⟩, h7⟩ := hs
    have hxs := strsOf_eq hx
    cases hv with
    | hsl _ _ o' _ _ c' b z _ _ hm hn hc hz ho =>
    obtain ⟨arr, ty, a1, a2, a3, a4, _⟩ := hw.obj i _ hg b z hm
    have hcell : ∀ (j : Nat) x, (xs.map fun l => (⟨l.toArray⟩ : ByteArray))[j]? = some x → w.cell? ⟨b, o' + j, none⟩ = some (.string x) := by
      intro j x hj
      simp only [List.getElem?_map, Option.map_eq_some_iff] at hj
      obtain ⟨l, hj, rfl⟩ := hj
      have hjn : j < n := by
        have := (List.getElem?_eq_some_iff.1 hj).1
        omega
      have ho' : o' = o := by
        rcases ho with h | h
        · exact h
        · omega
      have e1 : ((cs.drop o).take n)[j]? = some (.str l) := by rw [hxs, List.getElem?_map, hj]; rfl
      rw [List.getElem?_take, if_pos hjn, List.getElem?_drop] at e1
      have hlt := (List.getElem?_eq_some_iff.1 e1).1
      obtain ⟨y, hy⟩ : ∃ y, arr[o + j]? = some y := ⟨_, Array.getElem?_eq_getElem (by omega)⟩
      have h8 := (a4 _ _ _ e1 hy).str_inv
      subst h8
      subst ho'
      unfold World.cell?
      simp only [a1]
      exact hy
    have hj := Any.strings_Join Tryz.laysJoin Tryz.extraJoin b o' c' (xs.map fun l => (⟨l.toArray⟩ : ByteArray)) ⟨sep.toArray⟩ w hcell (Array.getElem?_eq_some_iff.1 a1).1 (by rw [List.length_map]; omega) (by rw [List.length_map]; omega)
      (by simpa [List.map_map, Function.comp_def] using h7)
    rw [List.length_map, h5] at hj
    refine call_below (fun K => .str _) hw (hj.mono ?_)
    rintro e w' ⟨rfl, hb⟩
    refine ⟨?_, hb⟩
    simp [List.map_map, Function.comp_def]
end
def D4 (g : Nat) : Bool := g.beq 48 || g.beq 49 || g.beq 52
def OBL : CallF := fun g al H => bif g.beq 48 then oSP al H else bif g.beq 49 then oRA al H else bif g.beq 52 then oJN al H else none
theorem OBL_cases {g : Nat} {al : List AV} {H : AH} {r : Res} (h : OBL g al H = some r) : (g = 48 ∧ oSP al H = some r) ∨ (g = 49 ∧ oRA al H = some r) ∨ (g = 52 ∧ oJN al H = some r) := by
  unfold OBL at h
  cases h1 : g.beq 48 with
  | true => rw [h1] at h; exact .inl ⟨by simpa using h1, h⟩
  | false =>
  cases h2 : g.beq 49 with
  | true => rw [h1, h2] at h; exact .inr (.inl ⟨by simpa using h2, h⟩)
  | false =>
  cases h3 : g.beq 52 with
  | true => rw [h1, h2, h3] at h; exact .inr (.inr ⟨by simpa using h3, h⟩)
  | false => rw [h1, h2, h3] at h; cases h
theorem OBL_ok (B : Nat) (W : World) (ht : Tb4 B W) : CallOk Tryz.prog B W OBL := by
  refine ⟨fun g al H r h => ?_, fun g al H r h K w vs hw hl => ?_⟩
  · rcases OBL_cases h with ⟨rfl, _⟩ | ⟨rfl, _⟩ | ⟨rfl, _⟩
    · exact ⟨_, Tryz.func48, by kernel_rfl, by kernel_rfl⟩
    · exact ⟨_, Tryz.func49, by kernel_rfl, by kernel_rfl⟩
    · exact ⟨_, Tryz.func52, by kernel_rfl, by kernel_rfl⟩
  · rcases OBL_cases h with ⟨rfl, h⟩ | ⟨rfl, h⟩ | ⟨rfl, h⟩
    · exact oSP_ok ht h hw hl
    · exact oRA_ok ht h hw hl
    · exact oJN_ok ht h hw hl
noncomputable def OF4 : CallF := orO D4 OBL OF3
theorem OF4_ok (B : Nat) (W : World) (ht : Tb4 B W) : CallOk Tryz.prog B W OF4 := orO_ok (OBL_ok B W ht) (OF3_ok B W ht.1)
theorem OF3_4 : Sub OF3 OF4 := by
  intro g al H r h
  show (bif D4 g then OBL g al H else OF3 g al H) = some r
  cases hg : D4 g with
  | false => exact h
  | true =>
    have hc : g = 48 ∨ g = 49 ∨ g = 52 := by simpa [D4, or_assoc] using hg
    have : OF3 g al H = none := by rcases hc with rfl | rfl | rfl <;> rfl
    rw [this] at h; cases h
end T
