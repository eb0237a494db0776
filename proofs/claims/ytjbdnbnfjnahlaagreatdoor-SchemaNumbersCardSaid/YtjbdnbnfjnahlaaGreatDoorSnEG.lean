import Derived.Test.YtjbdnbnfjnahlaaGreatDoorSnD
set_option linter.all false
set_option linter.unusedVariables false
set_option linter.unusedSimpArgs false
set_option maxRecDepth 100000
namespace T
open Go Go.Aes Go.Proofs

theorem n18_19 {n : Str} (h : n ∈ N18) : n ∈ N19 := by
  have : (N18.all fun n => memB N19 n) = true := by kernel_rfl
  exact memB_iff.1 (List.all_eq_true.1 this n h)
theorem getF (o : Bool) {a : Str} (ha : a ∈ N18) : ∃ d1 d2 d3 d4 d5 k n, (∀ H, E2 42 [sch o, .str a] H = some (.val (.tup [.agg [d1, d2, d3, d4, d5], .bool k]) H)) ∧ (∀ H, E2 43 [sch o, .str a] H = some (.val (.tup [.agg [d1, d2, d3, d4, d5], .bool k]) H)) ∧
    allOne [d1, d2, d3, d4, d5] = true ∧ (∀ H, E2 45 [.agg [.str [], .str [], .sl [[d1, d2, d3, d4, d5]] .full], .agg [.str [], .str [], .sl [[d1, d2, d3, d4, d5]] .full]] H = some (.val (.bool true) H)) ∧
    (∀ H, E2 22 [sch o, .str a] H = some (.val (.int .i64 n) H)) ∧ (∀ H, E2 35 [sch o, .str a] H = some (.val (.int .i64 n) H)) ∧ (∀ H, E2 46 [strL (pos o a), strL (pos o a)] H = some (.val (.bool true) H)) := by
  have h : chkF o a = true := by
    cases o
    · exact List.all_eq_true.1 chkF_f a ha
    · exact List.all_eq_true.1 chkF_t a ha
  unfold chkF at h
  simp only [Bool.and_eq_true] at h
  obtain ⟨h1, h2, h3, h4, h5, h6, h7, h8⟩ := h
  obtain ⟨d1, d2, d3, d4, d5, k, hv, o1, o2, o3, o4, o5⟩ := tpl5_inv h3
  obtain ⟨n, hn⟩ := isI_inv h5
  rw [hv] at h1 h2 h4
  rw [hn] at h6 h7
  exact ⟨d1, d2, d3, d4, d5, k, n, fun H => evO_O rfl (show compO 42 _ H = _ from compO_of h1 H), fun H => evO_O rfl (show compO 43 _ H = _ from compO_of h2 H), by simp [allOne, o1, o2, o3, o4, o5],
    fun H => evO_O rfl (show compO 45 _ H = _ from compO_of h4 H), fun H => evO_O rfl (show compO 22 _ H = _ from compO_of h6 H), fun H => evO_O rfl (show compO 35 _ H = _ from compO_of h7 H), fun H => evO_O rfl (show compO 46 _ H = _ from compO_of h8 H)⟩
theorem getG (o : Bool) {a b : Str} (ha : a ∈ N18) (hb : b ∈ N18) : ∃ d1 d2 d3 d4 d5 k, (∀ H, E2 21 [sch o, .str a, .str b] H = some (.val (.tup [.agg [d1, d2, d3, d4, d5], .bool k]) H)) ∧ (∀ H, E2 44 [sch o, .str a, .str b] H = some (.val (.tup [.agg [d1, d2, d3, d4, d5], .bool k]) H)) ∧
    allOne [d1, d2, d3, d4, d5] = true ∧ (∀ H, E2 45 [.agg [.str [], .str [], .sl [[.int .i64 0, .str [], .sl [] .nil, .sl [[d1, d2, d3, d4, d5]] .full, .sl [] .nil]] .full], .agg [.str [], .str [], .sl [[.int .i64 0, .str [], .sl [] .nil, .sl [[d1, d2, d3, d4, d5]] .full, .sl [] .nil]] .full]] H = some (.val (.bool true) H)) := by
  have h := chkG_all o ha hb
  unfold chkG at h
  simp only [Bool.and_eq_true] at h
  obtain ⟨h1, h2, h3, h4⟩ := h
  obtain ⟨d1, d2, d3, d4, d5, k, hv, o1, o2, o3, o4, o5⟩ := tpl5_inv h3
  rw [hv] at h1 h2 h4
  exact ⟨d1, d2, d3, d4, d5, k, fun H => evO_O rfl (show compO 21 _ H = _ from compO_of h1 H), fun H => evO_O rfl (show compO 44 _ H = _ from compO_of h2 H), by simp [allOne, o1, o2, o3, o4, o5],
    fun H => evO_O rfl (show compO 45 _ H = _ from compO_of h4 H)⟩
theorem getI (o : Bool) {n w : Str} (hn : n ∈ N12) (hw : w ∈ W8) : ∃ i j, (∀ H, E2 50 [sch o, ty n w] H = some (.val (.bool i) H)) ∧ (∀ H, E2 51 [sch o, ty n w] H = some (.val (.bool i) H)) ∧
    (∀ H, E2 52 [sch o, ty n w] H = some (.val (.bool j) H)) ∧ (∀ H, E2 53 [sch o, ty n w] H = some (.val (.bool j) H)) := by
  have h : chkI o n w = true := by
    cases o
    · exact List.all_eq_true.1 (List.all_eq_true.1 chkI_f n hn) w hw
    · exact List.all_eq_true.1 (List.all_eq_true.1 chkI_t n hn) w hw
  unfold chkI at h
  simp only [Bool.and_eq_true] at h
  obtain ⟨h1, h2, h3, h4, h5, h6⟩ := h
  obtain ⟨i, hi⟩ := isB_inv h1
  obtain ⟨j, hj⟩ := isB_inv h4
  rw [hi] at h2 h3
  rw [hj] at h5 h6
  exact ⟨i, j, fun H => evO_O rfl (show compO 50 _ H = _ from compO_of h2 H), fun H => evO_O rfl (show compO 51 _ H = _ from compO_of h3 H), fun H => evO_O rfl (show compO 52 _ H = _ from compO_of h5 H), fun H => evO_O rfl (show compO 53 _ H = _ from compO_of h6 H)⟩

/-- what both say of names and types -/
theorem p14 (o : Bool) {p q n1 w1 n2 w2 : Str} (hp : p ∈ N18) (hq : q ∈ N18) (a1 : n1 ∈ N12) (a2 : n2 ∈ N12) (m1 : w1 ∈ W8) (m2 : w2 ∈ W8) (H : AH) : E2 14 [sch o, .str p, .str q, ty n1 w1, ty n2 w2] H = some (.val (.bool true) H) := by
  obtain ⟨cs, hcs, h3, ho, hf⟩ := sch_agg o
  have hck : (AV.agg cs).kill = .agg cs := by rw [← hcs]; exact sch_kill o
  obtain ⟨d1, d2, d3, d4, d5, dk, kn, f42, f43, fo, f45, f22, f35, f46⟩ := getF o hp
  obtain ⟨g1, g2, g3, g4, g5, gk, f21, f44, go, g45⟩ := getG o hp hq
  obtain ⟨i, j, f50, f51, f52, f53⟩ := getI o a1 m1
  have f23 := fun H => p23 o (n18_19 hp) H
  have f47 := fun H => p47 o (n18_19 hp) H
  have f11 := fun H => p11 o (n18_19 hp) (n18_19 hq) H
  have f48 := fun H => p48 o (n18_19 hp) (n18_19 hq) H
  have f8 := fun H => p8 o a1 a2 m1 m2 H
  have f49 := fun H => p49 o a1 a2 m1 m2 H
  generalize subO o n1 w1 n2 w2 = sb at f8 f49
  generalize mts o p q = mt at f11 f48
  generalize strL (pos o p) = ps at f23 f47 f46
  rw [hcs] at f42 f43 f22 f35 f21 f44 f50 f51 f52 f53 f23 f47 f11 f48 f8 f49 ⊢
  have hks : AV.kills [.agg cs, .str p, .str q, ty n1 w1, ty n2 w2] = [.agg cs, .str p, .str q, ty n1 w1, ty n2 w2] := by simp only [AV.kills, hck]; rfl
  refine uo_form (X := X) (D := D2) (O := O2) (S := PS2) (al := [.agg cs, .str p, .str q, ty n1 w1, ty n2 w2]) e14 xf14 rfl rfl (by rw [hks]; simp [AV.frees, hf, ty, AV.free]) rfl ?_ H
  rw [hks]
  obtain ⟨K, hK⟩ : ∃ K, K = ((H0.push (.cells cs)).push (.cells [.str n1, .str w1])).push (.cells [.str n2, .str w2]) := ⟨_, rfl⟩
  have iK : IsFn K := by subst hK; exact inferInstance
  have k0 : K.get 0 = some (.cells cs) := by subst hK; simp [get_push_i, nx_push_i, H0_nx]
  have k1 : K.get 1 = some (.cells [.str n1, .str w1]) := by subst hK; simp [get_push_i, nx_push_i, H0_nx]
  have k2 : K.get 2 = some (.cells [.str n2, .str w2]) := by subst hK; simp [get_push_i, nx_push_i, H0_nx]
  have x0 : K.nx = 3 := by subst hK; simp [nx_push_i, H0_nx]
  unfold ty at f50 f51 f52 f53 f8 f49 ⊢
  have hb0 : ∀ k : AV → AH → Prop, qBox (.agg cs) H0 k = k (.ptr 0 0) (H0.push (.cells cs)) := fun k => by rw [qBox_i, cells_agg, ho]; rfl
  have hb1 : ∀ k : AV → AH → Prop, qBox (.agg [.str n1, .str w1]) (H0.push (.cells cs)) k = k (.ptr 1 0) ((H0.push (.cells cs)).push (.cells [.str n1, .str w1])) := fun k => by rw [qBox_i]; rfl
  have hb2 : ∀ k : AV → AH → Prop, qBox (.agg [.str n2, .str w2]) ((H0.push (.cells cs)).push (.cells [.str n1, .str w1])) k = k (.ptr 2 0) K := fun k => by rw [qBox_i, hK]; rfl
  have l0 := fun (k : AV → Prop) => ldA (n := 3) k0 0 (l := cs) (slice_whole cs 3 h3) k
  -- a new block, written whole: the old ones stay
  have nw : ∀ (A : AH) (n : Nat) (z row : List AV), IsFn A → A.nx = n → z.length = row.length → allOne row = true → ∃ A1 A2, IsFn A1 ∧ IsFn A2 ∧ A2.nx = n + 1 ∧ (∀ k : AV → AH → Prop, qNew (.cells z) .ptr A k = k (.ptr n 0) A1) ∧
      (∀ k : AV → AH → Prop, qSt row.length (.ptr n 0) (.agg row) A1 k = k undef A2) ∧ A2.get n = some (.cells row) ∧ (∀ j, j < n → A2.get j = A.get j) ∧ A1.nx = n + 1 ∧ A1.get n = some (.cells z) ∧ (∀ j, j < n → A1.get j = A.get j) := by
    intro A n z row iA hx hz ha
    have hat : (A.push (.cells z)).get n = some (.cells z) := by rw [← hx]; exact get_push_at _
    refine ⟨A.push (.cells z), (A.push (.cells z)).set n (some (.cells row)), inferInstance, inferInstance, by rw [AH.nx_set, nx_push_i, hx], fun k => by rw [qNew_i, hx]; rfl, fun k => qSt_whole hat hz rfl ha k, ?_, fun j hj => ?_, by rw [nx_push_i, hx], hat, fun j hj => get_push_lt _ (by omega)⟩
    · rw [get_set_i (lt_i hat), if_pos rfl]
    · rw [get_set_i (lt_i hat), if_neg (by omega), get_push_lt _ (by omega)]
  obtain ⟨A1, K1, ia1, ik1, x1, na1, sa1, ga1, ka1, _, _, _⟩ := nw K 3 z71 [d1, d2, d3, d4, d5] iK x0 rfl fo
  obtain ⟨A2, K2, ia2, ik2, x2, na2, sa2, ga2, ka2, _, _, _⟩ := nw K1 4 z71 [d1, d2, d3, d4, d5] ik1 x1 rfl fo
  obtain ⟨A3, K3, ia3, ik3, x3, na3, sa3, ga3, ka3, _, _, _⟩ := nw K2 5 z52 [g1, g2, g3, g4, g5] ik2 x2 rfl go
  obtain ⟨A4, K4, ia4, ik4, x4, na4, sa4, ga4, ka4, _, _, _⟩ := nw K3 6 z52 [g1, g2, g3, g4, g5] ik3 x3 rfl go
  have c0 : ∀ j, j < 3 → K1.get j = K.get j := fun j hj => ka1 j hj
  have l10 := fun (k : AV → Prop) => ldA (n := 3) ((ka1 0 (by decide)).trans k0) 0 (l := cs) (slice_whole cs 3 h3) k
  have l20 := fun (k : AV → Prop) => ldA (n := 3) ((ka2 0 (by decide)).trans ((ka1 0 (by decide)).trans k0)) 0 (l := cs) (slice_whole cs 3 h3) k
  have l30 := fun (k : AV → Prop) => ldA (n := 3) ((ka3 0 (by decide)).trans ((ka2 0 (by decide)).trans ((ka1 0 (by decide)).trans k0))) 0 (l := cs) (slice_whole cs 3 h3) k
  have q0 : K4.get 0 = some (.cells cs) := (ka4 0 (by decide)).trans ((ka3 0 (by decide)).trans ((ka2 0 (by decide)).trans ((ka1 0 (by decide)).trans k0)))
  have q1 : K4.get 1 = some (.cells [.str n1, .str w1]) := (ka4 1 (by decide)).trans ((ka3 1 (by decide)).trans ((ka2 1 (by decide)).trans ((ka1 1 (by decide)).trans k1)))
  have q2 : K4.get 2 = some (.cells [.str n2, .str w2]) := (ka4 2 (by decide)).trans ((ka3 2 (by decide)).trans ((ka2 2 (by decide)).trans ((ka1 2 (by decide)).trans k2)))
  have q3 : K4.get 3 = some (.cells [d1, d2, d3, d4, d5]) := (ka4 3 (by decide)).trans ((ka3 3 (by decide)).trans ((ka2 3 (by decide)).trans ga1))
  have q4 : K4.get 4 = some (.cells [d1, d2, d3, d4, d5]) := (ka4 4 (by decide)).trans ((ka3 4 (by decide)).trans ga2)
  have q5 : K4.get 5 = some (.cells [g1, g2, g3, g4, g5]) := (ka4 5 (by decide)).trans ga3
  have q6 : K4.get 6 = some (.cells [g1, g2, g3, g4, g5]) := ga4
  have r3 := fun (k : AV → Prop) => ldA (n := 5) q3 0 (l := [d1, d2, d3, d4, d5]) rfl k
  have r4 := fun (k : AV → Prop) => ldA (n := 5) q4 0 (l := [d1, d2, d3, d4, d5]) rfl k
  -- the two pairs of schemas
  obtain ⟨ya, hya⟩ : ∃ v, v = [AV.str [], .str [], .sl [[d1, d2, d3, d4, d5]] .full] := ⟨_, rfl⟩
  have yo : allOne ya = true := by rw [hya]; rfl
  have bT1 : ∀ k : AV → Prop, qRows z71 1 [(0, .agg [d1, d2, d3, d4, d5])] k = k (.sl [[d1, d2, d3, d4, d5]] .full) := fun k => by
    unfold qRows
    have : putRow z71 (List.replicate 1 z71) [(0, .agg [d1, d2, d3, d4, d5])] = some [[d1, d2, d3, d4, d5]] := by
      show (bif (Nat.beq 5 5) && allOne [d1, d2, d3, d4, d5] && Nat.blt 0 1 then _ else none) = _
      rw [fo]; rfl
    rw [this, qO_some]
  have bT2 : ∀ k : AV → Prop, qBld z24 [(2, 1, .sl [[d1, d2, d3, d4, d5]] .full)] k = k (.agg ya) := fun k => by rw [hya]; rfl
  obtain ⟨A5, K5, ia5, ik5, x5, na5, sa5, ga5, ka5, y5, z5, w5⟩ := nw K4 7 z24 ya ik4 x4 (by rw [hya]; rfl) yo
  -- both are made ahead of being written
  have v1 := z5
  obtain ⟨B6, hB6⟩ : ∃ B, B = A5.push (.cells z24) := ⟨_, rfl⟩
  have iB6 : IsFn B6 := by subst hB6; exact inferInstance
  have nB6 : ∀ k : AV → AH → Prop, qNew (.cells z24) .ptr A5 k = k (.ptr 8 0) B6 := fun k => by rw [qNew_i, y5, hB6]; rfl
  have b67 : B6.get 7 = some (.cells z24) := by rw [hB6, get_push_lt _ (by omega)]; exact z5
  have b68 : B6.get 8 = some (.cells z24) := by
    have y5' : A5.nx = 8 := y5
    rw [hB6, ← y5']; exact get_push_at _
  have b6k : ∀ j, j < 7 → B6.get j = K4.get j := fun j hj => by rw [hB6, get_push_lt _ (by omega)]; exact w5 j hj
  have xB6 : B6.nx = 9 := by rw [hB6, nx_push_i, y5]
  obtain ⟨B7, hB7⟩ : ∃ B, B = B6.set 7 (some (.cells ya)) := ⟨_, rfl⟩
  have s7 : ∀ k : AV → AH → Prop, qSt 3 (.ptr 7 0) (.agg ya) B6 k = k undef B7 := fun k => by rw [hB7]; exact qSt_whole b67 rfl (by rw [hya]; rfl) yo k
  have iB7 : IsFn B7 := by subst hB7; exact inferInstance
  have b7g : ∀ j, B7.get j = if j = 7 then some (.cells ya) else B6.get j := fun j => by rw [hB7, get_set_i (by omega)]
  have b74 : B7.get 4 = some (.cells [d1, d2, d3, d4, d5]) := by rw [b7g, if_neg (by decide), b6k 4 (by decide)]; exact q4
  have r74 := fun (k : AV → Prop) => ldA (n := 5) b74 0 (l := [d1, d2, d3, d4, d5]) rfl k
  obtain ⟨B8, hB8⟩ : ∃ B, B = B7.set 8 (some (.cells ya)) := ⟨_, rfl⟩
  have b78 : B7.get 8 = some (.cells z24) := by rw [b7g, if_neg (by decide)]; exact b68
  have s8 : ∀ k : AV → AH → Prop, qSt 3 (.ptr 8 0) (.agg ya) B7 k = k undef B8 := fun k => by rw [hB8]; exact qSt_whole b78 rfl (by rw [hya]; rfl) yo k
  have iB8 : IsFn B8 := by subst hB8; exact inferInstance
  have b8g : ∀ j, B8.get j = if j = 8 then some (.cells ya) else if j = 7 then some (.cells ya) else B6.get j := fun j => by rw [hB8, get_set_i (lt_i b78), b7g]
  have xB8 : B8.nx = 9 := by rw [hB8, AH.nx_set, hB7, AH.nx_set, xB6]
  have e5 : B8.get 5 = some (.cells [g1, g2, g3, g4, g5]) := by rw [b8g, if_neg (by decide), if_neg (by decide), b6k 5 (by decide)]; exact q5
  have e6 : B8.get 6 = some (.cells [g1, g2, g3, g4, g5]) := by rw [b8g, if_neg (by decide), if_neg (by decide), b6k 6 (by decide)]; exact q6
  have r5 := fun (k : AV → Prop) => ldA (n := 5) e5 0 (l := [g1, g2, g3, g4, g5]) rfl k
  have r6 := fun (k : AV → Prop) => ldA (n := 5) e6 0 (l := [g1, g2, g3, g4, g5]) rfl k
  obtain ⟨yb, hyb⟩ : ∃ v, v = [AV.int .i64 0, .str [], .sl [] .nil, .sl [[g1, g2, g3, g4, g5]] .full, .sl [] .nil] := ⟨_, rfl⟩
  have ybo : allOne yb = true := by rw [hyb]; rfl
  have bF1 : ∀ k : AV → Prop, qRows z52 1 [(0, .agg [g1, g2, g3, g4, g5])] k = k (.sl [[g1, g2, g3, g4, g5]] .full) := fun k => by
    unfold qRows
    have : putRow z52 (List.replicate 1 z52) [(0, .agg [g1, g2, g3, g4, g5])] = some [[g1, g2, g3, g4, g5]] := by
      show (bif (Nat.beq 5 5) && allOne [g1, g2, g3, g4, g5] && Nat.blt 0 1 then _ else none) = _
      rw [go]; rfl
    rw [this, qO_some]
  have bF2 : ∀ k : AV → Prop, qBld z71 [(3, 1, .sl [[g1, g2, g3, g4, g5]] .full)] k = k (.agg yb) := fun k => by rw [hyb]; rfl
  obtain ⟨C1, hC1⟩ : ∃ B, B = (B8.push (.cells z71)).push (.cells z71) := ⟨_, rfl⟩
  have nC0 : ∀ k : AV → AH → Prop, qNew (.cells z71) .ptr B8 k = k (.ptr 9 0) (B8.push (.cells z71)) := fun k => by rw [qNew_i, xB8]; rfl
  have nC1 : ∀ k : AV → AH → Prop, qNew (.cells z71) .ptr (B8.push (.cells z71)) k = k (.ptr 10 0) C1 := fun k => by rw [qNew_i, nx_push_i, xB8, hC1]; rfl
  have iC1 : IsFn C1 := by subst hC1; exact inferInstance
  have c1k : ∀ j, j < 9 → C1.get j = B8.get j := fun j hj => by rw [hC1, get_push_lt _ (by rw [nx_push_i]; omega), get_push_lt _ (by omega)]
  have c19 : C1.get 9 = some (.cells z71) := by rw [hC1, get_push_lt _ (by rw [nx_push_i]; omega), ← xB8]; exact get_push_at _
  have c110 : C1.get 10 = some (.cells z71) := by
    have hx : (B8.push (.cells z71)).nx = 10 := by rw [nx_push_i, xB8]
    rw [hC1, ← hx]; exact get_push_at _
  obtain ⟨C2, hC2⟩ : ∃ B, B = C1.set 9 (some (.cells yb)) := ⟨_, rfl⟩
  have s9 : ∀ k : AV → AH → Prop, qSt 5 (.ptr 9 0) (.agg yb) C1 k = k undef C2 := fun k => by rw [hC2]; exact qSt_whole c19 rfl (by rw [hyb]; rfl) ybo k
  have iC2 : IsFn C2 := by subst hC2; exact inferInstance
  have c2g : ∀ j, C2.get j = if j = 9 then some (.cells yb) else C1.get j := fun j => by rw [hC2, get_set_i (lt_i c19)]
  have r26 := fun (k : AV → Prop) => ldA (n := 5) (H := C2) (i := 6) (cs := [g1, g2, g3, g4, g5]) (by rw [c2g, if_neg (by decide), c1k 6 (by decide)]; exact e6) 0 (l := [g1, g2, g3, g4, g5]) rfl k
  obtain ⟨C3, hC3⟩ : ∃ B, B = C2.set 10 (some (.cells yb)) := ⟨_, rfl⟩
  have c210 : C2.get 10 = some (.cells z71) := by rw [c2g, if_neg (by decide)]; exact c110
  have s10 : ∀ k : AV → AH → Prop, qSt 5 (.ptr 10 0) (.agg yb) C2 k = k undef C3 := fun k => by rw [hC3]; exact qSt_whole c210 rfl (by rw [hyb]; rfl) ybo k
  have iC3 : IsFn C3 := by subst hC3; exact inferInstance
  have c3g : ∀ j, C3.get j = if j = 10 then some (.cells yb) else if j = 9 then some (.cells yb) else C1.get j := fun j => by rw [hC3, get_set_i (lt_i c210), c2g]
  have c3k : ∀ j, j < 7 → C3.get j = K4.get j := fun j hj => by rw [c3g, if_neg (by omega), if_neg (by omega), c1k j (by omega), b8g, if_neg (by omega), if_neg (by omega), b6k j hj]
  have v0 := fun (k : AV → Prop) => ldA (n := 3) ((c3k 0 (by decide)).trans q0) 0 (l := cs) (slice_whole cs 3 h3) k
  have v1 := fun (k : AV → Prop) => ldA (n := 2) ((c3k 1 (by decide)).trans q1) 0 (l := [.str n1, .str w1]) rfl k
  have v2 := fun (k : AV → Prop) => ldA (n := 2) ((c3k 2 (by decide)).trans q2) 0 (l := [.str n2, .str w2]) rfl k
  have v7 := fun (k : AV → Prop) => ldA (n := 3) (H := C3) (i := 7) (cs := ya) (by rw [c3g, if_neg (by decide), if_neg (by decide), c1k 7 (by decide), b8g]; rfl) 0 (l := ya) (slice_whole ya 3 (by rw [hya]; rfl)) k
  have v8 := fun (k : AV → Prop) => ldA (n := 3) (H := C3) (i := 8) (cs := ya) (by rw [c3g, if_neg (by decide), if_neg (by decide), c1k 8 (by decide), b8g]; rfl) 0 (l := ya) (slice_whole ya 3 (by rw [hya]; rfl)) k
  have v9 := fun (k : AV → Prop) => ldA (n := 5) (H := C3) (i := 9) (cs := yb) (by rw [c3g]; rfl) 0 (l := yb) (slice_whole yb 5 (by rw [hyb]; rfl)) k
  have v10 := fun (k : AV → Prop) => ldA (n := 5) (H := C3) (i := 10) (cs := yb) (by rw [c3g]; rfl) 0 (l := yb) (slice_whole yb 5 (by rw [hyb]; rfl)) k
  rw [← hya] at f45
  rw [← hyb] at g45
  have w1' : ∀ k : AV → Prop, qRows z71 1 [(0, .agg yb)] k = k (.sl [yb] .full) := fun k => by
    unfold qRows
    have : putRow z71 (List.replicate 1 z71) [(0, .agg yb)] = some [yb] := by rw [hyb]; rfl
    rw [this, qO_some]
  have w2' : ∀ k : AV → Prop, qBld z24 [(2, 1, .sl [yb] .full)] k = k (.agg [.str [], .str [], .sl [yb] .full]) := fun k => rfl
  have bq : ∀ (b : Bool) (k : AV → Prop), qEql X 4 (.bool b) (.bool b) k = k (.bool true) := fun b k => by cases b <;> rfl
  simp only [List.length_cons, List.length_nil, Nat.reduceAdd, Nat.zero_add] at sa1 sa2 sa3 sa4
  simp -implicitDefEqProofs only [c14, r14_0, r14_1, r14_2, r14_3, r14_4, r14_5, r14_6, opn_z, opn_s, sel_z, sel_s, qCd_eq, qIf_true, qIf_false, qFn_eq, qBl_eq, qO_some, qRes_val, qHp_some, qPick_true, qPick_false, qG_tt, qG_ff, qG_tf, qG_ft, cellsK_some, qLd_vptr, qLdA_vptr, qFa_ptr, qFa_vptr, qNc_ptr, qNc_vptr, qNc_fn, qNot_bool, qExt_tup, qCallV_fn, qLss_int, qLeq_int, qGtr_int, qGeq_int, qEql_int, qNeq_int, qAdd_int, qSub_int, qMul_int, qConvI_int, qLenL_sl, qLenL_hsl, qLenS_str, foldO, min2_int, max2_int, qSame_refl, Nat.zero_add, List.getElem?_cons_zero, List.getElem?_cons_succ, List.nil_append, List.cons_append, List.append_nil, one_bool, one_int, one_str, one_nilp, one_ptr, one_sl, one_hsl, one_map, one_fn, List.length_cons, List.length_nil, List.set_cons_zero, List.set_cons_succ, Nat.reduceLT, Nat.reduceAdd, qG_un, hb0, hb1, hb2, l0, f42, na1, sa1, l10, f43, na2, sa2, l20, f21, na3, sa3, l30, f44, na4, sa4, r3, r4, bT1, bT2, na5, nB6, s7, r74, s8, r5, r6, bF1, bF2, nC0, nC1, s9, r26, s10]
  simp -implicitDefEqProofs only [r14_7, opn_z, opn_s, sel_z, sel_s, qCd_eq, qIf_true, qIf_false, qFn_eq, qBl_eq, qO_some, qRes_val, qHp_some, qPick_true, qPick_false, qG_tt, qG_ff, qG_tf, qG_ft, cellsK_some, qLd_vptr, qLdA_vptr, qFa_ptr, qFa_vptr, qNc_ptr, qNc_vptr, qNc_fn, qNot_bool, qExt_tup, qCallV_fn, qLss_int, qLeq_int, qGtr_int, qGeq_int, qEql_int, qNeq_int, qAdd_int, qSub_int, qMul_int, qConvI_int, qLenL_sl, qLenL_hsl, qLenS_str, foldO, min2_int, max2_int, qSame_refl, Nat.zero_add, List.getElem?_cons_zero, List.getElem?_cons_succ, List.nil_append, List.cons_append, List.append_nil, one_bool, one_int, one_str, one_nilp, one_ptr, one_sl, one_hsl, one_map, one_fn, List.length_cons, List.length_nil, List.set_cons_zero, List.set_cons_succ, Nat.reduceLT, Nat.reduceAdd, qG_un, v7, v8, f45, bq, v9, v10, w1', w2', g45, v0, v1, v2, f22, f35, f23, f47, f46, f11, f48, f8, f49, f50, f51, f52, f53, beq_self_eq_true, AV.kill]
end T
set_option linter.unusedVariables false
set_option linter.unusedSimpArgs false
set_option maxRecDepth 100000
namespace T
open Go Go.Aes Go.Proofs

def nm (a : Int) : Str := N18.getD (a % 18).toNat []
theorem nm_mem (a : Int) : nm a ∈ N18 := by
  have h0 := Int.emod_nonneg a (by decide : (18 : Int) ≠ 0)
  have h1 := Int.emod_lt_of_pos a (by decide : (0 : Int) < 18)
  have hl : N18.length = 18 := by kernel_rfl
  have h : (a % 18).toNat < N18.length := by omega
  unfold nm
  rw [List.getD_eq_getElem?_getD, List.getElem?_eq_getElem h]; exact List.getElem_mem h
theorem nm_row (a : Int) : ((N18.map fun s => [AV.str s]))[(a % 18).toNat]? = some [.str (nm a)] := by
  have h0 := Int.emod_nonneg a (by decide : (18 : Int) ≠ 0)
  have h1 := Int.emod_lt_of_pos a (by decide : (0 : Int) < 18)
  have hl : N18.length = 18 := by kernel_rfl
  have h : (a % 18).toNat < N18.length := by omega
  unfold nm
  rw [List.getElem?_map, List.getD_eq_getElem?_getD, List.getElem?_eq_getElem h]; rfl

theorem ev_numbers (v a b t u : Int) : ∃ H', E2 5 [.int .i64 v, .int .i64 a, .int .i64 b, .int .i64 t, .int .i64 u] H0 = some (.val (.bool true) H') := by
  suffices h : ∃ x H', E2 5 [.int .i64 v, .int .i64 a, .int .i64 b, .int .i64 t, .int .i64 u] H0 = some (.val x H') ∧ x = .bool true by
    obtain ⟨x, H', h1, rfl⟩ := h; exact ⟨H', h1⟩
  refine ao_form (X := X) (D := D2) (O := O2) (S := PS2) (Q := fun x _ => x = .bool true) e5 xf5 rfl rfl ?_
  have e6 := fun H => p6 v H
  generalize decide (v % 4 = 0) = o at e6
  have et := fun H => p7 t H
  have eu := fun H => p7 u H
  have pa := fun H => p15 a 18 (by decide) (by decide) H
  have pb := fun H => p15 b 18 (by decide) (by decide) H
  have f14 := fun H => p14 o (nm_mem a) (nm_mem b) (tn_mem t) (tn_mem u) (tw_mem t) (tw_mem u) H
  have ra := nm_row a
  have rb := nm_row b
  have h0 := Int.emod_nonneg a (by decide : (18 : Int) ≠ 0)
  have h1 := Int.emod_nonneg b (by decide : (18 : Int) ≠ 0)
  obtain ⟨i, hi⟩ : ∃ i : Nat, a % 18 = (i : Int) := ⟨(a % 18).toNat, by omega⟩
  obtain ⟨j, hj⟩ : ∃ i : Nat, b % 18 = (i : Int) := ⟨(b % 18).toNat, by omega⟩
  rw [hi] at pa ra
  rw [hj] at pb rb
  simp only [Int.toNat_natCast] at ra rb
  generalize nm a = na at *
  generalize nm b = nb at *
  generalize ty (tn t) (tw t) = tt at *
  generalize ty (tn u) (tw u) = tu at *
  obtain ⟨cs, hcs, h3, ho, hf⟩ := sch_agg o
  rw [hcs] at e6 f14
  have hl : (N18.map fun s => [AV.str s]).length = 18 := by kernel_rfl
  have hrow : ∀ k : AV → Prop, qRows z9 18 [(0, (.str [81,117,101,114,121])), (1, (.str [78,111,100,101])), (2, (.str [65])), (3, (.str [66])), (4, (.str [84,104,105,110,103])), (5, (.str [75,105,110,100])), (6, (.str [73,110])), (7, (.str [65,110,121])), (8, (.str [73,110,116])), (9, (.str [78,111,110,101])), (10, (.str [77,117,116,97,116,105,111,110])), (11, (.str [76,101,97,102])), (12, (.str [82,111,111,116])), (13, (.str [97])), (14, (.str [105,100])), (15, (.str [95,95,116,121,112,101,110,97,109,101])), (16, (.str [110,101,120,116])), (17, (.str [110,97,109,101]))] k = k (.sl (N18.map fun s => [AV.str s]) .full) := fun k => by kernel_rfl
  generalize (N18.map fun s => [AV.str s]) = rows at *
  have ia : ∀ (k : AV → Prop), qIa 1 (.sl rows .full) (.int .i64 (i : Int)) k = k (.vptr [.str na] 0) := fun k => qIa_rows ra rfl k
  have ib : ∀ (k : AV → Prop), qIa 1 (.sl rows .full) (.int .i64 (j : Int)) k = k (.vptr [.str nb] 0) := fun k => qIa_rows rb rfl k
  have hll : ∀ k : AV → Prop, qLenL (.sl rows .full) k = k (.int .i64 18) := fun k => by rw [qLenL_sl, hl]; rfl
  have lva := fun (H : AH) (k : AV → Prop) => qLd_vptr (R := Prop) [.str na] 0 H k
  have lvb := fun (H : AH) (k : AV → Prop) => qLd_vptr (R := Prop) [.str nb] 0 H k
  obtain ⟨K0, hK0⟩ : ∃ K, K = H0.push (.cells z24) := ⟨_, rfl⟩
  have i0 : IsFn K0 := by subst hK0; exact inferInstance
  have g0 : K0.get 0 = some (.cells z24) := by subst hK0; simp [get_push_i, H0_nx]
  have n0 : ∀ k : AV → AH → Prop, qNew (.cells z24) .ptr H0 k = k (.ptr 0 0) K0 := fun k => by rw [qNew_i, hK0]; rfl
  have s1 := fun (k : AV → AH → Prop) => qSt_whole (n := 3) (l := cs) g0 rfl h3 ho k
  obtain ⟨K2, hK2⟩ : ∃ K, K = K0.set 0 (some (.cells cs)) := ⟨_, rfl⟩
  rw [← hK2] at s1
  have i2 : IsFn K2 := by subst hK2; exact inferInstance
  have y0 : K2.get 0 = some (.cells cs) := by subst hK2; rw [get_set_i (lt_i g0)]; rfl
  have l1 := fun (k : AV → Prop) => qLdA_whole (n := 3) y0 h3 k
  have vz : ∀ (r : List AV) (H : AH) (k : AV → Prop), qLd (.vptr r 0) H k = qO r[0]? k := fun r H k => rfl
  simp -implicitDefEqProofs only [c5, r5_0, r5_1, r5_2, r5_3, r5_4, opn_z, opn_s, sel_z, sel_s, qCd_eq, qIf_true, qIf_false, qFn_eq, qBl_eq, qO_some, qRes_val, qHp_some, qPick_true, qPick_false, qG_tt, qG_ff, qG_tf, qG_ft, cellsK_some, qLd_vptr, qLdA_vptr, qFa_ptr, qFa_vptr, qNc_ptr, qNc_vptr, qNc_fn, qNot_bool, qExt_tup, qCallV_fn, qLss_int, qLeq_int, qGtr_int, qGeq_int, qEql_int, qNeq_int, qAdd_int, qSub_int, qMul_int, qConvI_int, qLenL_sl, qLenL_hsl, qLenS_str, foldO, min2_int, max2_int, qSame_refl, Nat.zero_add, List.getElem?_cons_zero, List.getElem?_cons_succ, List.nil_append, List.cons_append, List.append_nil, one_bool, one_int, one_str, one_nilp, one_ptr, one_sl, one_hsl, one_map, one_fn, List.length_cons, List.length_nil, List.set_cons_zero, List.set_cons_succ, Nat.reduceLT, Nat.reduceAdd, qG_un, e6, n0, s1, hrow, hll, pa, pb, ia, ib, lva, lvb, l1, et, eu, f14, p10]
end T
