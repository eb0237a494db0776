import Derived.Test.YtpndehigidcchaaGreatDoorOrC
import Derived.Shelf.Strings.CaseAny
set_option linter.all false
set_option linter.unusedVariables false
set_option maxRecDepth 10000
namespace Go.Proofs
open Go.RowKit Go.Shelf Go.Lib
def Tryz.laysLower_ren : Go.Shelf.Ren := ⟨fun | 159 => 89 | 165 => 67 | 166 => 33 | 167 => 37 | 169 => 35 | 230 => 95 | 204 => 96 | 240 => 46 | 241 => 84 | 197 => 78 | 118 => 98 | 168 => 54 | 270 => 99 | 262 => 100 | 276 => 63 | 277 => 94 | 260 => 90 | 242 => 71 | 313 => 102 | 278 => 88 | 274 => 103 | 275 => 104 | n => n, fun | 9 => 9 | 4 => 4 | 3 => 3 | 5 => 5 | 72 => 60 | 0 => 0 | 76 => 63 | 75 => 62 | 107 => 114 | 70 => 57 | 20 => 20 | 37 => 58 | 127 => 70 | 21 => 21 | 105 => 77 | 164 => 87 | 162 => 122 | 203 => 120 | 119 => 103 | 46 => 96 | 139 => 106 | 138 => 105 | 51 => 110 | 160 => 123 | 208 => 129 | 206 => 127 | 80 => 65 | n => n, fun | 13 => 3 | 3 => 1 | 4 => 2 | n => n⟩
theorem Tryz.laysLower : Go.Proofs.Lays.n159 Tryz.prog Tryz.laysLower_ren := {
  mixed := by kernel_rfl
  f118 := Tryz.func98.trans (congrArg some (by kernel_rfl))
  f159 := Tryz.func89.trans (congrArg some (by kernel_rfl))
  f165 := Tryz.func67.trans (congrArg some (by kernel_rfl))
  f166 := Tryz.func33.trans (congrArg some (by kernel_rfl))
  f167 := Tryz.func37.trans (congrArg some (by kernel_rfl))
  f168 := Tryz.func54.trans (congrArg some (by kernel_rfl))
  f169 := Tryz.func35.trans (congrArg some (by kernel_rfl))
  f197 := Tryz.func78.trans (congrArg some (by kernel_rfl))
  f204 := Tryz.func96.trans (congrArg some (by kernel_rfl))
  f230 := Tryz.func95.trans (congrArg some (by kernel_rfl))
  f240 := Tryz.func46.trans (congrArg some (by kernel_rfl))
  f241 := Tryz.func84.trans (congrArg some (by kernel_rfl))
  f242 := Tryz.func71.trans (congrArg some (by kernel_rfl))
  f260 := Tryz.func90.trans (congrArg some (by kernel_rfl))
  f262 := Tryz.func100.trans (congrArg some (by kernel_rfl))
  f270 := Tryz.func99.trans (congrArg some (by kernel_rfl))
  f274 := Tryz.func103.trans (congrArg some (by kernel_rfl))
  f275 := Tryz.func104.trans (congrArg some (by kernel_rfl))
  f276 := Tryz.func63.trans (congrArg some (by kernel_rfl))
  f277 := Tryz.func94.trans (congrArg some (by kernel_rfl))
  f278 := Tryz.func88.trans (congrArg some (by kernel_rfl))
  f313 := Tryz.func102.trans (congrArg some (by kernel_rfl))
  t0 := Tryz.underlying0
  a0 := Tryz.isAgg0
  z0 := Tryz.sizeOf0
  v0 := Tryz.zeroValue0
  t3 := Tryz.underlying3
  a3 := Tryz.isAgg3
  z3 := Tryz.sizeOf3
  v3 := Tryz.zeroValue3
  t4 := Tryz.underlying4
  a4 := Tryz.isAgg4
  z4 := Tryz.sizeOf4
  v4 := Tryz.zeroValue4
  t5 := Tryz.underlying5
  a5 := Tryz.isAgg5
  z5 := Tryz.sizeOf5
  v5 := Tryz.zeroValue5
  t9 := Tryz.underlying9
  a9 := Tryz.isAgg9
  z9 := Tryz.sizeOf9
  v9 := Tryz.zeroValue9
  t20 := Tryz.underlying20
  a20 := Tryz.isAgg20
  z20 := Tryz.sizeOf20
  v20 := Tryz.zeroValue20
  t21 := Tryz.underlying21
  a21 := Tryz.isAgg21
  z21 := Tryz.sizeOf21
  v21 := Tryz.zeroValue21
  t37 := Tryz.underlying58
  a37 := Tryz.isAgg58
  z37 := Tryz.sizeOf58
  v37 := Tryz.zeroValue58
  t46 := Tryz.underlying96
  a46 := Tryz.isAgg96
  z46 := Tryz.sizeOf96
  v46 := Tryz.zeroValue96
  t51 := Tryz.underlying110
  a51 := Tryz.isAgg110
  z51 := Tryz.sizeOf110
  v51 := Tryz.zeroValue110
  t70 := Tryz.underlying57
  a70 := Tryz.isAgg57
  z70 := Tryz.sizeOf57
  v70 := Tryz.zeroValue57
  t72 := Tryz.underlying60
  a72 := Tryz.isAgg60
  z72 := Tryz.sizeOf60
  v72 := Tryz.zeroValue60
  t75 := Tryz.underlying62
  a75 := Tryz.isAgg62
  z75 := Tryz.sizeOf62
  v75 := Tryz.zeroValue62
  t76 := Tryz.underlying63
  a76 := Tryz.isAgg63
  z76 := Tryz.sizeOf63
  v76 := Tryz.zeroValue63
  t105 := Tryz.underlying77
  a105 := Tryz.isAgg77
  z105 := Tryz.sizeOf77
  v105 := Tryz.zeroValue77
  t107 := Tryz.underlying114
  a107 := Tryz.isAgg114
  z107 := Tryz.sizeOf114
  v107 := Tryz.zeroValue114
  t119 := Tryz.underlying103
  a119 := Tryz.isAgg103
  z119 := Tryz.sizeOf103
  t127 := Tryz.underlying70
  a127 := Tryz.isAgg70
  z127 := Tryz.sizeOf70
  v127 := Tryz.zeroValue70
  t138 := Tryz.underlying105
  a138 := Tryz.isAgg105
  z138 := Tryz.sizeOf105
  v138 := Tryz.zeroValue105
  t139 := Tryz.underlying106
  a139 := Tryz.isAgg106
  z139 := Tryz.sizeOf106
  v139 := Tryz.zeroValue106
  t160 := Tryz.underlying123
  a160 := Tryz.isAgg123
  z160 := Tryz.sizeOf123
  v160 := Tryz.zeroValue123
  t162 := Tryz.underlying122
  a162 := Tryz.isAgg122
  z162 := Tryz.sizeOf122
  v162 := Tryz.zeroValue122
  t164 := Tryz.underlying87
  a164 := Tryz.isAgg87
  z164 := Tryz.sizeOf87
  v164 := Tryz.zeroValue87
  t203 := Tryz.underlying120
  a203 := Tryz.isAgg120
  z203 := Tryz.sizeOf120
  v203 := Tryz.zeroValue120
  t206 := Tryz.underlying127
  a206 := Tryz.isAgg127
  z206 := Tryz.sizeOf127
  v206 := Tryz.zeroValue127
  t208 := Tryz.underlying129
  a208 := Tryz.isAgg129
  z208 := Tryz.sizeOf129
  v208 := Tryz.zeroValue129
  g3 := by kernel_rfl
  g4 := by kernel_rfl
  g13 := by kernel_rfl }
theorem Tryz.extraLower : Builder.Extra Tryz.prog Tryz.laysLower_ren where
  sizeBuilder := by kernel_rfl
  liesBuilder := by kernel_rfl
  t5 := Tryz.laysLower.t5
  a5 := Tryz.laysLower.a5
  z5 := Tryz.laysLower.z5
  v5 := Tryz.laysLower.v5
  infoByte := by kernel_rfl
  cellsByte := by kernel_rfl
  sizeByte := by kernel_rfl
  neB5 := by decide
end Go.Proofs
namespace T
open Go Go.Aes Go.Proofs Go.RowKit
def Tb3 (B : Nat) (W : World) : Prop := Tb B W ∧ 3 < B ∧ ∃ R oR cap, R < B ∧ W.cell? ⟨3, 0, none⟩ = some (.slice (some ⟨R, oR, none⟩) Lib.caseA.size cap) ∧ Lib.CaseTab R oR Lib.caseA W
theorem Tb3.var {B : Nat} {W : World} (h : Tb3 B W) : Lib.CaseVar 3 Lib.caseA W := by
  obtain ⟨_, _, R, oR, cap, _, h1, h2⟩ := h
  exact ⟨R, oR, cap, h1, h2⟩
theorem Tb3.of {W : World} (h : Tb W.heap.size W) (hv : Lib.CaseVar 3 Lib.caseA W) : Tb3 W.heap.size W := by
  obtain ⟨R, oR, cap, h1, h2⟩ := hv
  have hsz : 0 < Lib.caseA.size := by rw [Lib.caseA_size]; omega
  exact ⟨h, World.block_lt_of_cell? W _ h1, R, oR, cap, World.block_lt_of_cell? W _ (h2 0 hsz).1, h1, h2⟩
theorem tbOk3 : TbOk Tb3 := ⟨fun B W w ⟨h0, h1, R, oR, cap, hR, h2, h3⟩ hb hB => by
  have key : ∀ g o, g < B → w.cell? ⟨g, o, none⟩ = W.cell? ⟨g, o, none⟩ := fun g o hg => World.cell?_of_block (hb.block g hg)
  refine ⟨tbOk.mono B W w h0 hb hB, Nat.lt_of_lt_of_le h1 (Nat.le_trans hB hb.size), R, oR, cap, Nat.lt_of_lt_of_le hR (Nat.le_trans hB hb.size), by rw [key _ _ h1]; exact h2, fun i hi => ?_⟩
  obtain ⟨a, b, c, d, e⟩ := h3 i hi
  exact ⟨by rw [key _ _ hR]; exact a, by rw [key _ _ hR]; exact b, by rw [key _ _ hR]; exact c, by rw [key _ _ hR]; exact d, by rw [key _ _ hR]; exact e⟩⟩
def oTL (al : List AV) (H : AH) : Option Res :=
  match al with
  | [.str s] => bif s.length.blt 35184372088832 then some (.val (.str (Lib.toLowerD s)) H) else none
  | _ => none
theorem oTL_ok {B : Nat} {W w : World} {K : KC} {H : AH} {r : Res} {al : List AV} {vs : List Value} (ht : Tb3 B W) (h : oTL al H = some r) (hw : RW B W K H w) (hl : RL K al vs) : Calls Tryz.prog 89 vs.toArray w (CPost B W K H r) := by
  unfold oTL at h
  split at h <;> first | (cases h; done) | skip
  rename_i s
  cases hs : s.length.blt 35184372088832 with
  | false => simp [hs] at h
  | true =>
    simp only [hs, cond_true, Option.some.injEq] at h
    subst h
    obtain ⟨vs', rfl, h2⟩ := str_vs hl
    obtain rfl := h2.nil_inv
    have hs' : s.length < 35184372088832 := by simpa [Nat.blt_eq] using hs
    have ht' := tbOk3.at_ ht hw
    exact call_below (fun K => .str _) hw (Any.strings_ToLower_any Tryz.laysLower Tryz.extraLower ⟨s.toArray⟩ w (by simpa [ByteArray.size] using hs') ht'.var ht'.1.1)
def OTL : CallF := fun g al H => bif g.beq 89 then oTL al H else none
theorem OTL_ok (B : Nat) (W : World) (ht : Tb3 B W) : CallOk Tryz.prog B W OTL := by
  refine ⟨fun g al H r h => ?_, fun g al H r h K w vs hw hl => ?_⟩
  all_goals
    unfold OTL at h
    cases hg : g.beq 89 with
    | false => rw [hg] at h; cases h
    | true =>
      rw [hg] at h
      obtain rfl : g = 89 := by simpa using hg
      first
        | exact ⟨_, Tryz.func89, by kernel_rfl, by kernel_rfl⟩
        | exact oTL_ok ht h hw hl
def D3 (g : Nat) : Bool := g.beq 89
noncomputable def OF3 : CallF := orO D3 OTL OF2
theorem OF3_ok (B : Nat) (W : World) (ht : Tb3 B W) : CallOk Tryz.prog B W OF3 := orO_ok (OTL_ok B W ht) (OF2_ok B W ht.1)
theorem OF2_3 : Sub OF2 OF3 := by
  intro g al H r h
  show (bif D3 g then OTL g al H else OF2 g al H) = some r
  cases hg : D3 g with
  | false => exact h
  | true =>
    obtain rfl : g = 89 := by simpa [D3] using hg
    have : OF2 89 al H = none := rfl
    rw [this] at h; cases h
theorem cO_sub {X : Cx} {D : Nat → Bool} {O O' : CallF} {S : Nat → Bool} (s : Sub O O') : ∀ n, Sub (cO X D O S n) (cO X D O' S n)
  | 0 => fun g al H r h => by simp [cO] at h
  | n + 1 => fun g al H r h => by
    have h' : (bif D g then O g al H else bif S g && AV.frees (AV.kills al) then PO X (cO X D O S n) g al H else abody X (cO X D O S n) n g al H) = some r := h
    show (bif D g then O' g al H else bif S g && AV.frees (AV.kills al) then PO X (cO X D O' S n) g al H else abody X (cO X D O' S n) n g al H) = some r
    cases hd : D g with
    | true => rw [hd] at h'; exact s _ _ _ _ h'
    | false =>
      rw [hd] at h'
      simp only [cond_false] at h' ⊢
      cases hs : (S g && AV.frees (AV.kills al)) with
      | true =>
        rw [hs] at h'
        simp only [cond_true] at h' ⊢
        obtain ⟨ha, lf, v0, H', h1, h2, rfl⟩ := PO_inv h'
        exact PO_mk ha (abody_mono (cO_sub s n) (Nat.le_refl lf) h1) h2
      | false =>
        rw [hs] at h'
        simp only [cond_false] at h' ⊢
        exact abody_mono (cO_sub s n) (Nat.le_refl n) h'
theorem evO_sub {X : Cx} {D : Nat → Bool} {O O' : CallF} {S : Nat → Bool} (s : Sub O O') : Sub (evO X D O S) (evO X D O' S) := by
  intro g al H r h
  obtain ⟨n, hn⟩ := evO_iff.1 h
  exact evO_iff.2 ⟨n, cO_sub s n g al H r hn⟩
end T
