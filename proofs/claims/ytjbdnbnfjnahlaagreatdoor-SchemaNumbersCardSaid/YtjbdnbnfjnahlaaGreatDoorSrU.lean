import Derived.Test.YtjbdnbnfjnahlaaGreatDoorSrX
set_option linter.all false
set_option linter.unusedVariables false
set_option linter.unusedSimpArgs false
set_option maxRecDepth 10000
namespace T
open Go Go.Aes Go.Proofs

def dTy : List AV → Bool
  | [.agg [.str n, .str w]] => decide (n ∈ N12) && decide (w ∈ W8)
  | _ => false
def fTy : List AV → AV
  | [.agg [.str n, .str w]] => .bool (okW w)
  | _ => Aes.undef
theorem dTy_inv {al : List AV} (h : dTy al = true) : ∃ n w, al = [ty n w] ∧ n ∈ N12 ∧ w ∈ W8 := by
  unfold dTy at h
  split at h
  · simp only [Bool.and_eq_true, decide_eq_true_eq] at h
    exact ⟨_, _, rfl, h.1, h.2⟩
  · cases h
noncomputable def dBe : List AV → Bool
  | [x, .str a, .str b] => beqV x (sch (isO x)) && (decide (a ∈ N12) && decide (b ∈ N12))
  | _ => false
def fBe : List AV → AV
  | [x, .str a, .str b] => .bool (bel (isO x) a b)
  | _ => Aes.undef
theorem dBe_inv {al : List AV} (h : dBe al = true) : ∃ o a b, al = [sch o, .str a, .str b] ∧ a ∈ N12 ∧ b ∈ N12 ∧ o = isO (sch o) := by
  unfold dBe at h
  split at h
  · rename_i x a b
    simp only [Bool.and_eq_true, decide_eq_true_eq] at h
    have h1 := beqV_sound _ _ h.1
    exact ⟨isO x, a, b, by rw [← h1], h.2.1, h.2.2, by rw [← h1]⟩
  · cases h
noncomputable def dXAB : List AV → Bool
  | [x, .str a, .str b] => beqV x (sch (isO x)) && (memB N19 a && memB N19 b)
  | _ => false
theorem dXAB_inv {al : List AV} (h : dXAB al = true) : ∃ o a b, al = [sch o, .str a, .str b] ∧ a ∈ N19 ∧ b ∈ N19 := by
  unfold dXAB at h
  split at h
  · rename_i x a b
    simp only [Bool.and_eq_true, memB_iff] at h
    exact ⟨isO x, a, b, by rw [← beqV_sound _ _ h.1], h.2.1, h.2.2⟩
  · cases h
def fMe : List AV → AV
  | [x, .str a, .str b] => .bool (mts (isO x) a b)
  | _ => Aes.undef
theorem fMe_sch (o : Bool) (a b : Str) : fMe [sch o, .str a, .str b] = .bool (mts o a b) := by show AV.bool (mts (isO (sch o)) a b) = _; rw [isO_sch]
noncomputable def tbA : List Ent := [⟨10, [], .bool true⟩]
theorem tbA_ok : ∀ e ∈ tbA, PEntT Tryz.prog Tb e.g e.as e.v := by
  intro e h
  rcases List.mem_cons.1 h with rfl | h
  · exact aw10
  · cases h
noncomputable def OFm : CallF := orO (fun g => g.beq 11) (domO 11 dXAB fMe) (orO (fun g => g.beq 48) (domO 48 dXAB fMe) (orO (fun g => g.beq 10) (tabO tbA) OFp))
theorem OFm_ok (B : Nat) (W : World) (ht : Tb B W) : CallOk Tryz.prog B W OFm := by
  refine orO_ok (domO_ok ht fun al h => ?_) (orO_ok (domO_ok ht fun al h => ?_) (orO_ok (tabO_okT ht tbA tbA_ok) (OFp_ok B W ht)))
  · obtain ⟨o, a, b, rfl, ha, hb⟩ := dXAB_inv h; rw [fMe_sch]; exact me_ent o ha hb
  · obtain ⟨o, a, b, rfl, ha, hb⟩ := dXAB_inv h; rw [fMe_sch]; exact rme_ent o ha hb
noncomputable def OFs : CallF := orO (fun g => g.beq 16) (domO 16 dTy fTy) (orO (fun g => g.beq 9) (domO 9 dTy fTy) (orO (fun g => g.beq 19) (domO 19 dBe fBe) OFm))
theorem OFs_ok (B : Nat) (W : World) (ht : Tb B W) : CallOk Tryz.prog B W OFs := by
  refine orO_ok (domO_ok ht fun al h => ?_) (orO_ok (domO_ok ht fun al h => ?_) (orO_ok (domO_ok ht fun al h => ?_) (OFm_ok B W ht)))
  · obtain ⟨n, w, rfl, hn, hw⟩ := dTy_inv h; exact ct_ent hn hw
  · obtain ⟨n, w, rfl, hn, hw⟩ := dTy_inv h; exact rt_ent hn hw
  · obtain ⟨o, a, b, rfl, ha, hb, ho⟩ := dBe_inv h
    have := be_ent o ha hb
    show PEntT Tryz.prog Tb 19 _ (.bool (bel (isO (sch o)) a b))
    rw [← ho]; exact this
def ODs (g : Nat) : Bool := [16, 9, 19, 12, 56, 57, 11, 48, 10, 23, 47].contains g
def PS (g : Nat) : Bool := [8, 18, 58, 102, 6, 7, 15, 49, 91, 112, 115].contains g
noncomputable abbrev EP : CallF := evO X ODs OFs PS

theorem ep16 {n w : Str} (hn : n ∈ N12) (hw : w ∈ W8) (H : AH) : EP 16 [ty n w] H = some (.val (.bool (okW w)) H) := by
  refine evO_O rfl ?_
  show (bif (Nat.beq 16 16) && dTy (AV.kills [ty n w]) then some (Res.val (fTy (AV.kills [ty n w])) H) else none) = _
  have : dTy (AV.kills [ty n w]) = true := by
    show (decide (n ∈ N12) && decide (w ∈ W8)) = true
    simp [hn, hw]
  rw [this]; rfl
theorem ep9 {n w : Str} (hn : n ∈ N12) (hw : w ∈ W8) (H : AH) : EP 9 [ty n w] H = some (.val (.bool (okW w)) H) := by
  refine evO_O rfl ?_
  show (bif (Nat.beq 9 9) && dTy (AV.kills [ty n w]) then some (Res.val (fTy (AV.kills [ty n w])) H) else none) = _
  have : dTy (AV.kills [ty n w]) = true := by
    show (decide (n ∈ N12) && decide (w ∈ W8)) = true
    simp [hn, hw]
  rw [this]; rfl
theorem ep10 (H : AH) : EP 10 [] H = some (.val (.bool true) H) := evO_O rfl rfl
theorem sch_kill (o : Bool) : (sch o).kill = sch o := by cases o <;> kernel_rfl
theorem ep19 (o : Bool) {a b : Str} (ha : a ∈ N12) (hb : b ∈ N12) (H : AH) : EP 19 [sch o, .str a, .str b] H = some (.val (.bool (bel o a b)) H) := by
  refine evO_O rfl ?_
  show (bif (Nat.beq 19 19) && dBe (AV.kills [sch o, .str a, .str b]) then some (Res.val (fBe (AV.kills [sch o, .str a, .str b])) H) else none) = _
  have hk : AV.kills [sch o, .str a, .str b] = [sch o, .str a, .str b] := by simp only [AV.kills, AV.kill, sch_kill]
  have : dBe [sch o, .str a, .str b] = true := by
    show (beqV (sch o) (sch (isO (sch o))) && (decide (a ∈ N12) && decide (b ∈ N12))) = true
    rw [isO_sch, beqV_refl]; simp [ha, hb]
  rw [hk, this]
  show some (Res.val (.bool (bel (isO (sch o)) a b)) H) = _
  rw [isO_sch]

theorem ep11 (o : Bool) {a b : Str} (ha : a ∈ N19) (hb : b ∈ N19) (H : AH) : EP 11 [sch o, .str a, .str b] H = some (.val (.bool (mts o a b)) H) := by
  refine evO_O rfl ?_
  show (bif (Nat.beq 11 11) && dXAB (AV.kills [sch o, .str a, .str b]) then some (Res.val (fMe (AV.kills [sch o, .str a, .str b])) H) else none) = _
  have hk : AV.kills [sch o, .str a, .str b] = [sch o, .str a, .str b] := by simp only [AV.kills, AV.kill, sch_kill]
  have : dXAB [sch o, .str a, .str b] = true := by
    show (beqV (sch o) (sch (isO (sch o))) && (memB N19 a && memB N19 b)) = true
    rw [isO_sch, beqV_refl, memB_iff.2 ha, memB_iff.2 hb]; rfl
  rw [hk, this, fMe_sch]; rfl
theorem ep12 (o : Bool) (H : AH) : EP 12 [.str (if o then otherT else baseT)] H = some (.val (.tup [sch o, .int .i64 0, .int .i64 0]) H) := by
  cases o
  · exact evO_O rfl (by kernel_rfl)
  · exact evO_O rfl (by kernel_rfl)
theorem sch_agg (o : Bool) : ∃ cs, sch o = .agg cs ∧ cs.length = 3 ∧ allOne cs = true ∧ AV.frees cs = true := by
  cases o
  · exact ⟨_, rfl, by kernel_rfl, by kernel_rfl, by kernel_rfl⟩
  · exact ⟨_, rfl, by kernel_rfl, by kernel_rfl, by kernel_rfl⟩

/-! ### pieces of texts -/
theorem slcS_lo (s : Str) (a : Nat) (h : a ≤ s.length) (k : AV → Prop) : qSlc Tryz.t9.desc 0 (.str s) (some (.int .i64 (a : Int))) none none k = k (.str (s.drop a)) := by
  have hb : bnd (some (.int .i64 (a : Int))) 0 s.length = some a := by
    have : a.ble s.length = true := by simpa using h
    simp [bnd, asN, this]
  have : sliceD Tryz.t9.desc 0 (.str s) (some (.int .i64 (a : Int))) none none = some (.str (s.drop a)) := by
    show (match bnd none s.length s.length with
      | none => none
      | some h => match bnd (some (.int .i64 (a : Int))) 0 h with
        | none => none
        | some l => some (AV.str ((s.take h).drop l))) = _
    simp only [bnd] at hb ⊢
    rw [hb]
    simp
  unfold qSlc
  rw [this, qO_some]
theorem slcS_1 (b : UInt8) (s : Str) (k : AV → Prop) : qSlc Tryz.t9.desc 0 (.str (b :: s)) (some (.int .i64 1)) none none k = k (.str s) := slcS_lo (b :: s) 1 (by simp) k
theorem slcS_hi (s : Str) (a : Nat) (h : a ≤ s.length) (k : AV → Prop) : qSlc Tryz.t9.desc 0 (.str s) none (some (.int .i64 (a : Int))) none k = k (.str (s.take a)) := by
  have hb : bnd (some (.int .i64 (a : Int))) s.length s.length = some a := by
    have : a.ble s.length = true := by simpa using h
    simp [bnd, asN, this]
  have : sliceD Tryz.t9.desc 0 (.str s) none (some (.int .i64 (a : Int))) none = some (.str (s.take a)) := by
    show (match bnd (some (.int .i64 (a : Int))) s.length s.length with
      | none => none
      | some h => match bnd none 0 h with
        | none => none
        | some l => some (AV.str ((s.take h).drop l))) = _
    rw [hb]
    simp [bnd]
  unfold qSlc
  rw [this, qO_some]
theorem slcS_mid (s : Str) (a b : Nat) (h : a ≤ b) (hb : b ≤ s.length) (k : AV → Prop) : qSlc Tryz.t9.desc 0 (.str s) (some (.int .i64 (a : Int))) (some (.int .i64 (b : Int))) none k = k (.str ((s.take b).drop a)) := by
  have h1 : bnd (some (.int .i64 (b : Int))) s.length s.length = some b := by
    have : b.ble s.length = true := by simpa using hb
    simp [bnd, asN, this]
  have h2 : bnd (some (.int .i64 (a : Int))) 0 b = some a := by
    have : a.ble b = true := by simpa using h
    simp [bnd, asN, this]
  have : sliceD Tryz.t9.desc 0 (.str s) (some (.int .i64 (a : Int))) (some (.int .i64 (b : Int))) none = some (.str ((s.take b).drop a)) := by
    show (match bnd (some (.int .i64 (b : Int))) s.length s.length with
      | none => none
      | some h => match bnd (some (.int .i64 (a : Int))) 0 h with
        | none => none
        | some l => some (AV.str ((s.take h).drop l))) = _
    rw [h1]
    simp only [h2]
  unfold qSlc
  rw [this, qO_some]

theorem u8_eq (a b : UInt8) : ((a.toNat : Int) == (b.toNat : Int)) = decide (a = b) := by
  rw [Bool.eq_iff_iff]
  simp only [beq_iff_eq, decide_eq_true_eq]
  constructor
  · intro h; exact UInt8.toNat_inj.1 (by omega)
  · rintro rfl; rfl


end T
