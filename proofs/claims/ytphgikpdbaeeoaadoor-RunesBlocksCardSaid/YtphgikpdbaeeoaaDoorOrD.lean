import Derived.Test.YtphgikpdbaeeoaaDoorOrC
import Derived.Shelf.Strings.CaseAny
set_option linter.all false
set_option linter.unusedVariables false
set_option maxRecDepth 10000
namespace Go.Proofs
open Go.RowKit Go.Shelf Go.Lib
def Tryd.laysLower_ren : Go.Shelf.Ren := ⟨fun | 159 => 96 | 165 => 87 | 166 => 53 | 167 => 51 | 169 => 48 | 230 => 104 | 204 => 105 | 240 => 75 | 241 => 101 | 197 => 100 | 118 => 111 | 168 => 54 | 270 => 112 | 262 => 113 | 276 => 94 | 277 => 110 | 260 => 109 | 242 => 79 | 313 => 115 | 278 => 95 | 274 => 117 | 275 => 118 | n => n, fun | 9 => 9 | 4 => 4 | 3 => 3 | 5 => 5 | 72 => 63 | 0 => 0 | 76 => 73 | 75 => 70 | 107 => 119 | 70 => 61 | 20 => 20 | 37 => 51 | 127 => 89 | 21 => 21 | 105 => 76 | 164 => 112 | 162 => 126 | 203 => 124 | 119 => 95 | 46 => 49 | 139 => 98 | 138 => 97 | 51 => 114 | 160 => 129 | 208 => 135 | 206 => 133 | 80 => 65 | n => n, fun | 13 => 3 | 3 => 0 | 4 => 1 | n => n⟩
theorem Tryd.laysLower : Go.Proofs.Lays.n159 Tryd.prog Tryd.laysLower_ren := {
  mixed := by kernel_rfl
  f118 := Tryd.func111.trans (congrArg some (by kernel_rfl))
  f159 := Tryd.func96.trans (congrArg some (by kernel_rfl))
  f165 := Tryd.func87.trans (congrArg some (by kernel_rfl))
  f166 := Tryd.func53.trans (congrArg some (by kernel_rfl))
  f167 := Tryd.func51.trans (congrArg some (by kernel_rfl))
  f168 := Tryd.func54.trans (congrArg some (by kernel_rfl))
  f169 := Tryd.func48.trans (congrArg some (by kernel_rfl))
  f197 := Tryd.func100.trans (congrArg some (by kernel_rfl))
  f204 := Tryd.func105.trans (congrArg some (by kernel_rfl))
  f230 := Tryd.func104.trans (congrArg some (by kernel_rfl))
  f240 := Tryd.func75.trans (congrArg some (by kernel_rfl))
  f241 := Tryd.func101.trans (congrArg some (by kernel_rfl))
  f242 := Tryd.func79.trans (congrArg some (by kernel_rfl))
  f260 := Tryd.func109.trans (congrArg some (by kernel_rfl))
  f262 := Tryd.func113.trans (congrArg some (by kernel_rfl))
  f270 := Tryd.func112.trans (congrArg some (by kernel_rfl))
  f274 := Tryd.func117.trans (congrArg some (by kernel_rfl))
  f275 := Tryd.func118.trans (congrArg some (by kernel_rfl))
  f276 := Tryd.func94.trans (congrArg some (by kernel_rfl))
  f277 := Tryd.func110.trans (congrArg some (by kernel_rfl))
  f278 := Tryd.func95.trans (congrArg some (by kernel_rfl))
  f313 := Tryd.func115.trans (congrArg some (by kernel_rfl))
  t0 := Tryd.underlying0
  a0 := Tryd.isAgg0
  z0 := Tryd.sizeOf0
  v0 := Tryd.zeroValue0
  t3 := Tryd.underlying3
  a3 := Tryd.isAgg3
  z3 := Tryd.sizeOf3
  v3 := Tryd.zeroValue3
  t4 := Tryd.underlying4
  a4 := Tryd.isAgg4
  z4 := Tryd.sizeOf4
  v4 := Tryd.zeroValue4
  t5 := Tryd.underlying5
  a5 := Tryd.isAgg5
  z5 := Tryd.sizeOf5
  v5 := Tryd.zeroValue5
  t9 := Tryd.underlying9
  a9 := Tryd.isAgg9
  z9 := Tryd.sizeOf9
  v9 := Tryd.zeroValue9
  t20 := Tryd.underlying20
  a20 := Tryd.isAgg20
  z20 := Tryd.sizeOf20
  v20 := Tryd.zeroValue20
  t21 := Tryd.underlying21
  a21 := Tryd.isAgg21
  z21 := Tryd.sizeOf21
  v21 := Tryd.zeroValue21
  t37 := Tryd.underlying51
  a37 := Tryd.isAgg51
  z37 := Tryd.sizeOf51
  v37 := Tryd.zeroValue51
  t46 := Tryd.underlying49
  a46 := Tryd.isAgg49
  z46 := Tryd.sizeOf49
  v46 := Tryd.zeroValue49
  t51 := Tryd.underlying114
  a51 := Tryd.isAgg114
  z51 := Tryd.sizeOf114
  v51 := Tryd.zeroValue114
  t70 := Tryd.underlying61
  a70 := Tryd.isAgg61
  z70 := Tryd.sizeOf61
  v70 := Tryd.zeroValue61
  t72 := Tryd.underlying63
  a72 := Tryd.isAgg63
  z72 := Tryd.sizeOf63
  v72 := Tryd.zeroValue63
  t75 := Tryd.underlying70
  a75 := Tryd.isAgg70
  z75 := Tryd.sizeOf70
  v75 := Tryd.zeroValue70
  t76 := Tryd.underlying73
  a76 := Tryd.isAgg73
  z76 := Tryd.sizeOf73
  v76 := Tryd.zeroValue73
  t105 := Tryd.underlying76
  a105 := Tryd.isAgg76
  z105 := Tryd.sizeOf76
  v105 := Tryd.zeroValue76
  t107 := Tryd.underlying119
  a107 := Tryd.isAgg119
  z107 := Tryd.sizeOf119
  v107 := Tryd.zeroValue119
  t119 := Tryd.underlying95
  a119 := Tryd.isAgg95
  z119 := Tryd.sizeOf95
  t127 := Tryd.underlying89
  a127 := Tryd.isAgg89
  z127 := Tryd.sizeOf89
  v127 := Tryd.zeroValue89
  t138 := Tryd.underlying97
  a138 := Tryd.isAgg97
  z138 := Tryd.sizeOf97
  v138 := Tryd.zeroValue97
  t139 := Tryd.underlying98
  a139 := Tryd.isAgg98
  z139 := Tryd.sizeOf98
  v139 := Tryd.zeroValue98
  t160 := Tryd.underlying129
  a160 := Tryd.isAgg129
  z160 := Tryd.sizeOf129
  v160 := Tryd.zeroValue129
  t162 := Tryd.underlying126
  a162 := Tryd.isAgg126
  z162 := Tryd.sizeOf126
  v162 := Tryd.zeroValue126
  t164 := Tryd.underlying112
  a164 := Tryd.isAgg112
  z164 := Tryd.sizeOf112
  v164 := Tryd.zeroValue112
  t203 := Tryd.underlying124
  a203 := Tryd.isAgg124
  z203 := Tryd.sizeOf124
  v203 := Tryd.zeroValue124
  t206 := Tryd.underlying133
  a206 := Tryd.isAgg133
  z206 := Tryd.sizeOf133
  v206 := Tryd.zeroValue133
  t208 := Tryd.underlying135
  a208 := Tryd.isAgg135
  z208 := Tryd.sizeOf135
  v208 := Tryd.zeroValue135
  g3 := by kernel_rfl
  g4 := by kernel_rfl
  g13 := by kernel_rfl }
theorem Tryd.extraLower : Builder.Extra Tryd.prog Tryd.laysLower_ren where
  sizeBuilder := by kernel_rfl
  liesBuilder := by kernel_rfl
  t5 := Tryd.laysLower.t5
  a5 := Tryd.laysLower.a5
  z5 := Tryd.laysLower.z5
  v5 := Tryd.laysLower.v5
  infoByte := by kernel_rfl
  cellsByte := by kernel_rfl
  sizeByte := by kernel_rfl
  neB5 := by decide
end Go.Proofs
namespace T
open Go Go.Aes Go.Proofs Go.RowKit

/-! ### the table of the cases lies in the first heap, too -/
def Tb3 (B : Nat) (W : World) : Prop := Tb B W ∧ 3 < B ∧ ∃ R oR cap, R < B ∧ W.cell? ⟨3, 0, none⟩ = some (.slice (some ⟨R, oR, none⟩) Lib.caseA.size cap) ∧ Lib.CaseTab R oR Lib.caseA W
theorem Tb3.var {B : Nat} {W : World} (h : Tb3 B W) : Lib.CaseVar 3 Lib.caseA W := by
  obtain ⟨_, _, R, oR, cap, _, h1, h2⟩ := h
  exact ⟨R, oR, cap, h1, h2⟩
theorem Tb3.of {W : World} (h : Tb W.heap.size W) (hv : Lib.CaseVar 3 Lib.caseA W) : Tb3 W.heap.size W := by
  obtain ⟨R, oR, cap, h1, h2⟩ := hv
  have hsz : 0 < Lib.caseA.size := by rw [Lib.caseA_size]; omega
  exact ⟨h, World.block_lt_of_cell? W _ h1, R, oR, cap, World.block_lt_of_cell? W _ (h2 0 hsz).1, h1, h2⟩
theorem tbOk3 : TbOk Tb3 := ⟨fun B W w ⟨h0, h1, R, oR, cap, hR, h2, h3⟩ hb hB => by
  have key : ∀ g o, g < B → w.cell? ⟨g, o, none⟩ = W.cell? ⟨g, o, none⟩ := fun g o hg => World.cell?_of_block (hb.block g hg)
  refine ⟨tbOk.mono B W w h0 hb hB, Nat.lt_of_lt_of_le h1 (Nat.le_trans hB hb.size), R, oR, cap, Nat.lt_of_lt_of_le hR (Nat.le_trans hB hb.size), by rw [key _ _ h1]; exact h2, fun i hi => ?_⟩
  obtain ⟨a, b, c, d, e⟩ := h3 i hi
  exact ⟨by rw [key _ _ hR]; exact a, by rw [key _ _ hR]; exact b, by rw [key _ _ hR]; exact c, by rw [key _ _ hR]; exact d, by rw [key _ _ hR]; exact e⟩⟩

def oTL (al : List AV) (H : AH) : Option Res :=
  match al with
  | [.str s] => bif s.length.blt 35184372088832 then some (.val (.str (Lib.toLowerD s)) H) else none
  | _ => none

theorem oTL_ok {B : Nat} {W w : World} {K : KC} {H : AH} {r : Res} {al : List AV} {vs : List Value} (ht : Tb3 B W) (h : oTL al H = some r) (hw : RW B W K H w) (hl : RL K al vs) : Calls Tryd.prog 96 vs.toArray w (CPost B W K H r) := by
  unfold oTL at h
  split at h <;> first | (cases h; done) | skip
  rename_i s
  cases hs : s.length.blt 35184372088832 with
  | false => simp [hs] at h
  | true =>
    simp only [hs, cond_true, Option.some.injEq] at h
    subst h
    obtain ⟨vs', rfl, h2⟩ := str_vs hl
    obtain rfl := h2.nil_inv
    have hs' : s.length < 35184372088832 := by simpa [Nat.blt_eq] using hs
    have ht' := tbOk3.at_ ht hw
    exact call_below (fun K => .str _) hw (Any.strings_ToLower_any Tryd.laysLower Tryd.extraLower ⟨s.toArray⟩ w (by simpa [ByteArray.size] using hs') ht'.var ht'.1.1)

def OTL : CallF := fun g al H => bif g.beq 96 then oTL al H else none
theorem OTL_ok (B : Nat) (W : World) (ht : Tb3 B W) : CallOk Tryd.prog B W OTL := by
  refine ⟨fun g al H r h => ?_, fun g al H r h K w vs hw hl => ?_⟩
  all_goals
    unfold OTL at h
    cases hg : g.beq 96 with
    | false => rw [hg] at h; cases h
    | true =>
      rw [hg] at h
      obtain rfl : g = 96 := by simpa using hg
      first
        | exact ⟨_, Tryd.func96, by kernel_rfl, by kernel_rfl⟩
        | exact oTL_ok ht h hw hl
def D3 (g : Nat) : Bool := g.beq 96
noncomputable def OF3 : CallF := orO D3 OTL OF2
theorem OF3_ok (B : Nat) (W : World) (ht : Tb3 B W) : CallOk Tryd.prog B W OF3 := orO_ok (OTL_ok B W ht) (OF2_ok B W ht.1)
theorem OF2_3 : Sub OF2 OF3 := by
  intro g al H r h
  show (bif D3 g then OTL g al H else OF2 g al H) = some r
  cases hg : D3 g with
  | false => exact h
  | true =>
    obtain rfl : g = 96 := by simpa [D3] using hg
    have : OF2 96 al H = none := rfl
    rw [this] at h; cases h

/-! ### what is asked first may be more -/
theorem cO_sub {X : Cx} {D : Nat → Bool} {O O' : CallF} {S : Nat → Bool} (s : Sub O O') : ∀ n, Sub (cO X D O S n) (cO X D O' S n)
  | 0 => fun g al H r h => by simp [cO] at h
  | n + 1 => fun g al H r h => by
    have h' : (bif D g then O g al H else bif S g && AV.frees (AV.kills al) then PO X (cO X D O S n) g al H else abody X (cO X D O S n) n g al H) = some r := h
    show (bif D g then O' g al H else bif S g && AV.frees (AV.kills al) then PO X (cO X D O' S n) g al H else abody X (cO X D O' S n) n g al H) = some r
    cases hd : D g with
    | true => rw [hd] at h'; exact s _ _ _ _ h'
    | false =>
      rw [hd] at h'
      simp only [cond_false] at h' ⊢
      cases hs : (S g && AV.frees (AV.kills al)) with
      | true =>
        rw [hs] at h'
        simp only [cond_true] at h' ⊢
        obtain ⟨ha, lf, v0, H', h1, h2, rfl⟩ := PO_inv h'
        exact PO_mk ha (abody_mono (cO_sub s n) (Nat.le_refl lf) h1) h2
      | false =>
        rw [hs] at h'
        simp only [cond_false] at h' ⊢
        exact abody_mono (cO_sub s n) (Nat.le_refl n) h'
theorem evO_sub {X : Cx} {D : Nat → Bool} {O O' : CallF} {S : Nat → Bool} (s : Sub O O') : Sub (evO X D O S) (evO X D O' S) := by
  intro g al H r h
  obtain ⟨n, hn⟩ := evO_iff.1 h
  exact evO_iff.2 ⟨n, cO_sub s n g al H r hn⟩
end T
