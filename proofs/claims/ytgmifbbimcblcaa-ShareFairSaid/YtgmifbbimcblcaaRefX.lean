import Derived.Test.YtgmifbbimcblcaaShareX
import Derived.Test.YtgmifbbimcblcaaShareY
set_option linter.all false
set_option linter.unusedVariables false
set_option linter.unusedSimpArgs false
set_option maxRecDepth 10000
namespace T
open Go Go.Aes Go.Proofs

/-! ### a slice in the heap that is one's own -/
def HL (H : AH) (c : AV) (zs : List Int) : Prop := (c = .sl [] .nil ∧ zs = []) ∨ (zs ≠ [] ∧ ∃ i, c = .hsl i 0 zs.length zs.length 1 true ∧ H.get i = some (.cells (ints zs)))
def adr (c : AV) (j : Nat) : Prop := ∃ n, c = .hsl j 0 n n 1 true

theorem HL.one {H : AH} {c : AV} {zs : List Int} (h : HL H c zs) : Aes.one c = true := by
  rcases h with ⟨rfl, _⟩ | ⟨_, i, rfl, _⟩ <;> rfl
theorem Own.one {H : AH} {c : AV} {zs : List Int} (h : Own H c zs) : Aes.one c = true := by
  rcases h with ⟨rfl, _⟩ | ⟨_, i, rfl, _⟩ <;> rfl
theorem HL.ints {H : AH} {c : AV} {zs : List Int} (h : HL H c zs) : Ints H c zs := by
  rcases h with ⟨rfl, rfl⟩ | ⟨_, i, rfl, h⟩
  · exact .inl ⟨.nil, rfl⟩
  · exact .inr ⟨i, true, rfl, h⟩
theorem HL.keep {H H' : AH} {c : AV} {zs : List Int} {P : Nat → Prop} (h : HL H c zs) (hf : Aes.Fn H) (e : Ext H H' P) (hp : ∀ j, adr c j → ¬ P j) : HL H' c zs := by
  rcases h with h | ⟨h1, t, rfl, h2⟩
  · exact .inl h
  · exact .inr ⟨h1, t, rfl, (e.keep t (hf.lt h2) (hp t ⟨_, rfl⟩)).trans h2⟩
theorem HL.adr_lt {H : AH} {c : AV} {zs : List Int} (h : HL H c zs) (hf : Aes.Fn H) {j : Nat} (hj : adr c j) : j < H.nx := by
  rcases h with ⟨rfl, _⟩ | ⟨_, t, rfl, h2⟩
  · obtain ⟨n, h⟩ := hj; cases h
  · obtain ⟨n, h⟩ := hj; injection h with h; rw [← h]; exact hf.lt h2
theorem Own.tok_lt {H : AH} {c : AV} {zs : List Int} (h : Own H c zs) (hf : Aes.Fn H) {j : Nat} (hj : tokOf c j) : j < H.nx := by
  rcases h with ⟨rfl, _⟩ | ⟨_, t, rfl, h2⟩
  · obtain ⟨n, h⟩ := hj; injection h with _ h; cases h
  · obtain ⟨n, h⟩ := hj; injection h with _ h; injection h with h; rw [← h]; exact hf.lt h2
theorem Own.tok_get {H : AH} {c : AV} {zs : List Int} (h : Own H c zs) {j : Nat} (hj : tokOf c j) : H.get j = some .tok := by
  rcases h with ⟨rfl, _⟩ | ⟨_, t, rfl, h2⟩
  · obtain ⟨n, h⟩ := hj; injection h with _ h; cases h
  · obtain ⟨n, h⟩ := hj; injection h with _ h; injection h with h; rw [← h]; exact h2
theorem HL.adr_get {H : AH} {c : AV} {zs : List Int} (h : HL H c zs) {j : Nat} (hj : adr c j) : H.get j = some (.cells (T.ints zs)) := by
  rcases h with ⟨rfl, _⟩ | ⟨_, t, rfl, h2⟩
  · obtain ⟨n, h⟩ := hj; cases h
  · obtain ⟨n, h⟩ := hj; injection h with h; rw [← h]; exact h2

theorem app_h {H : AH} (hf : Aes.Fn H) {v : AV} {zs : List Int} (h : HL H v zs) (hl : zs.length < 1000000000) (z : Int) :
    ∃ v' H', (∀ k : AV → AH → Prop, qApp 1 8 v (.sl [[.int .i64 z]] .full) true H k = k v' H') ∧ HL H' v' (zs ++ [z]) ∧ Ext H H' (adr v) ∧ ∀ j, adr v' j → j = H.nx := by
  have hr : readRows 1 (.sl [[.int .i64 z]] .full) H = some [[.int .i64 z]] := rfl
  rcases h with ⟨rfl, rfl⟩ | ⟨h1, t, rfl, h2⟩
  · refine ⟨.hsl H.nx 0 1 1 1 true, H.push (.cells (ints [z])), fun k => ?_, .inr ⟨by simp, H.nx, rfl, by rw [hf.get_push]; simp⟩, (New.push hf _).ext.weak (fun _ _ h => h.elim), fun j ⟨n, hj⟩ => by injection hj with hj; exact hj.symm⟩
    have : app 1 8 (.sl [] .nil) (.sl [[.int .i64 z]] .full) true H = some (.hsl H.nx 0 1 1 1 true, H.push (.cells (ints [z]))) := by
      unfold app
      rw [hr]
      simp [hf.new, most]
      rfl
    unfold qApp
    rw [this]
    rfl
  · have hlt := hf.lt h2
    have hf2 : Aes.Fn (H.set t none) := hf.set t none
    have hnx : (H.set t none).nx = H.nx := AH.nx_set _ _ _
    have hlen : (zs ++ [z]).length = zs.length + 1 := by simp
    refine ⟨.hsl H.nx 0 (zs.length + 1) (zs.length + 1) 1 true, (H.set t none).push (.cells (ints (zs ++ [z]))), fun k => ?_, .inr ⟨by simp, H.nx, by rw [hlen], by rw [hf2.get_push, hnx]; simp⟩, ⟨hf2.push _, by rw [hf2.nx_push, hnx]; omega, fun j hj hn => ?_⟩, fun j ⟨n, hj⟩ => by injection hj with hj; exact hj.symm⟩
    · have hb : ((zs.length + 1) * (8 + 1)).blt most = true := by rw [Nat.blt_eq]; unfold most; omega
      have hs : slice? (ints zs) 0 (zs.length * 1) = some (ints zs) := by
        unfold slice?
        rw [List.drop_zero, List.take_of_length_le (by rw [ints_len]; omega)]
        simp [ints_len]
      have hi : ints zs ++ [AV.int .i64 z] = ints (zs ++ [z]) := by simp [ints]
      have : app 1 8 (.hsl t 0 zs.length zs.length 1 true) (.sl [[.int .i64 z]] .full) true H = some (.hsl H.nx 0 (zs.length + 1) (zs.length + 1) 1 true, (H.set t none).push (.cells (ints (zs ++ [z])))) := by
        unfold app
        rw [hr]
        simp only [List.length_cons, List.length_nil, Nat.zero_add, hb, h2, hf.okI h2, hs]
        rw [show ([[AV.int IntKind.i64 z]] : List (List AV)).flatten = [AV.int .i64 z] from rfl, hi, hf2.new, hnx]
        rfl
      unfold qApp
      rw [this]
      rfl
    · rw [hf2.get_push, hnx, if_neg (by omega), hf.get_set hlt, if_neg (fun e => hn ⟨_, by rw [e]⟩)]

/-! ### the reference's share -/
def rc (q : Int) (v c d : AV) (pos : Nat) (vis : Bool) : List AV := [.int .i64 q, v, c, d, .int .i64 (pos : Int), .bool vis]

structure RS (H : AH) (p : Nat) (q : Int) (zs cr sv : List Int) (pos : Nat) (vis : Bool) (v c d : AV) : Prop where
  fn : Aes.Fn H
  at_ : H.get p = some (.cells (rc q v c d pos vis))
  ov : Own H v zs
  oc : HL H c cr
  od : HL H d sv
  pc : ¬ adr c p
  pd : ¬ adr d p
  cd : ∀ j, adr c j → ¬ adr d j

theorem RS.pv {H : AH} {p : Nat} {q : Int} {zs cr sv : List Int} {pos : Nat} {vis : Bool} {v c d : AV} (h : RS H p q zs cr sv pos vis v c d) : ¬ tokOf v p := fun hj => by
  have := h.ov.tok_get hj
  rw [h.at_] at this
  cases this
theorem RS.vc {H : AH} {p : Nat} {q : Int} {zs cr sv : List Int} {pos : Nat} {vis : Bool} {v c d : AV} (h : RS H p q zs cr sv pos vis v c d) (j : Nat) (hv : tokOf v j) : ¬ adr c j ∧ ¬ adr d j :=
  ⟨fun hc => (by have := h.ov.tok_get hv; rw [h.oc.adr_get hc] at this; cases this), fun hc => (by have := h.ov.tok_get hv; rw [h.od.adr_get hc] at this; cases this)⟩

theorem RS.keep {H H' : AH} {P : Nat → Prop} {p : Nat} {q : Int} {zs cr sv : List Int} {pos : Nat} {vis : Bool} {v c d : AV} (h : RS H p q zs cr sv pos vis v c d) (e : Ext H H' P) (h1 : ¬ P p) (h2 : ∀ j, tokOf v j → ¬ P j) (h3 : ∀ j, adr c j → ¬ P j) (h4 : ∀ j, adr d j → ¬ P j) :
    RS H' p q zs cr sv pos vis v c d :=
  ⟨e.fn, (e.keep p (h.fn.lt h.at_) h1).trans h.at_, h.ov.keep h.fn e h2, h.oc.keep h.fn e h3, h.od.keep h.fn e h4, h.pc, h.pd, h.cd⟩

end T
set_option linter.unusedVariables false
set_option linter.unusedSimpArgs false
set_option maxRecDepth 10000
namespace T
open Go Go.Aes Go.Proofs

theorem rep1 (n : Nat) : List.replicate n (0 : Int) ++ [0] = List.replicate (n + 1) 0 := by rw [List.replicate_succ']

section
variable {O : CallF} (hO : OutO O)
include hO

theorem ev_refnew {B : AH} (hf : Aes.Fn B) (q0 : Int) (ws : List Int) (tk1 : Tk) :
    ∃ p v c d H', evl X O 26 [.int .i64 q0, .sl (intRows .i64 ws) tk1] B = some (.val (.ptr p 0) H') ∧ Ext B H' (fun _ => False) ∧ B.nx ≤ p ∧ (∀ j, adr c j → B.nx ≤ j) ∧ (∀ j, adr d j → B.nx ≤ j) ∧
      RS H' p (max 1 (min q0 1000)) ((ws.take (min ws.length 8)).map cutW) (List.replicate (min ws.length 8) 0) (List.replicate (min ws.length 8) 0) 0 false v c d := by
  suffices h : c26 (evl X O) [.int .i64 q0, .sl (intRows .i64 ws) tk1] B (fun r H' => ∃ p v c d, r = .ptr p 0 ∧ Ext B H' (fun _ => False) ∧ B.nx ≤ p ∧ (∀ j, adr c j → B.nx ≤ j) ∧ (∀ j, adr d j → B.nx ≤ j) ∧
      RS H' p (max 1 (min q0 1000)) ((ws.take (min ws.length 8)).map cutW) (List.replicate (min ws.length 8) 0) (List.replicate (min ws.length 8) 0) 0 false v c d) by
    obtain ⟨r, H', h1, p, v, c, d, rfl, h2⟩ := of_form e26 xf26 (hO _ _ _ (by decide) (by decide)) h
    exact ⟨p, v, c, d, H', h1, h2⟩
  have eq : min (max q0 1) 1000 = max 1 (min q0 1000) := by omega
  have hb : fillP z42 [(0, 1, .int .i64 (max 1 (min q0 1000)))] = some (rc (max 1 (min q0 1000)) (.sl [] .nil) (.sl [] .nil) (.sl [] .nil) 0 false) := rfl
  generalize max 1 (min q0 1000) = q at *
  have n1 := New.push hf (.cells (rc q (.sl [] .nil) (.sl [] .nil) (.sl [] .nil) 0 false))
  have hbx : ∀ k : AV → AH → Prop, qBox (.agg (rc q (.sl [] .nil) (.sl [] .nil) (.sl [] .nil) 0 false)) B k = k (.ptr B.nx 0) (B.push (.cells (rc q (.sl [] .nil) (.sl [] .nil) (.sl [] .nil) 0 false))) := fun k => by rw [qBox_fn hf _ rfl, AV.cells]
  generalize B.push (.cells (rc q (.sl [] .nil) (.sl [] .nil) (.sl [] .nil) 0 false)) = H1 at n1 hbx
  have na : ∀ j, ¬ adr (.sl [] .nil) j := fun j ⟨n, h⟩ => by cases h
  have nt : ∀ j, ¬ tokOf (.sl [] .nil) j := fun j ⟨n, h⟩ => by injection h with _ h; cases h
  have rs1 : RS H1 B.nx q [] [] [] 0 false (.sl [] .nil) (.sl [] .nil) (.sl [] .nil) := ⟨n1.fn, n1.at_, .inl ⟨rfl, rfl⟩, .inl ⟨rfl, rfl⟩, .inl ⟨rfl, rfl⟩, na _, na _, fun j h => absurd h (na j)⟩
  simp only [c26, r26_0, r26_1, r26_2, opn_z, opn_s, sel_z, sel_s, qCd_eq, qIf_true, qIf_false, qFn_eq, qBl_eq, qO_some, qRes_val, qHp_some, qPick_true, qPick_false, qG_tt, qG_ff, qG_tf, qG_ft, cellsK_some, qLd_vptr, qLdA_vptr, qFa_ptr, qFa_vptr, qNc_ptr, qNc_vptr, qNc_fn, qNot_bool, qExt_tup, qCallV_fn, qLss_int, qLeq_int, qGtr_int, qGeq_int, qEql_int, qNeq_int, qAdd_int, qSub_int, qMul_int, qConvI_int, qLenL_sl, qLenL_hsl, qLenS_str, foldO, min2_int, max2_int, qSame_refl, Nat.zero_add, List.getElem?_cons_zero, List.getElem?_cons_succ, List.nil_append, List.cons_append, List.append_nil, one_bool, one_int, one_str, one_nilp, one_ptr, one_sl, one_hsl, one_map, one_fn, List.length_cons, List.length_nil, List.set_cons_zero, List.set_cons_succ, Nat.reduceLT, Nat.reduceAdd, eq, qBld, hb, hbx]
  refine loop_inv (fun m fr H => ∃ (i : Nat) (v c d : AV) (x4 x19 : AV), m = 8 - i ∧ i ≤ min ws.length 8 ∧ fr = [.int .i64 q0, .sl (intRows .i64 ws) tk1, x4, .ptr B.nx 0, .int .i64 (i : Int), x19] ∧ Ext B H (fun _ => False) ∧ (∀ j, tokOf v j → B.nx ≤ j) ∧ (∀ j, adr c j → B.nx ≤ j) ∧ (∀ j, adr d j → B.nx ≤ j) ∧
    RS H B.nx q ((ws.take i).map cutW) (List.replicate i 0) (List.replicate i 0) 0 false v c d) ?_ (m := 8) ?_
  · rintro m fr H k ⟨i, v, c, d, x4, x19, rfl, hi, rfl, ext, tv, tc, td, rs⟩ hk
    by_cases h1 : i < ws.length
    · have h1' : (i : Int) < ((intRows .i64 ws).length : Int) := by rw [intRows_len]; omega
      by_cases h2 : i < 8
      · have h2' : (i : Int) < 8 := by omega
        have hz : ws[i]? = some ws[i] := List.getElem?_eq_getElem h1
        have hia := qIa_ints (tk := tk1) hz
        have ecut : min (max ws[i] 1) 20 = cutW ws[i] := by unfold cutW; omega
        have etake : (ws.take (i + 1)).map cutW = (ws.take i).map cutW ++ [cutW ws[i]] := by rw [List.take_succ_eq_append_getElem h1, List.map_append]; rfl
        -- the weight
        obtain ⟨v', H2, a1, a2, a3, a4, a5⟩ := app_own rs.fn rs.ov (by simp; omega) (cutW ws[i])
        rw [← etake] at a2
        have hp2 : H2.get B.nx = some (.cells (rc q v c d 0 false)) := (a3.keep B.nx (rs.fn.lt rs.at_) rs.pv).trans rs.at_
        have oc2 : HL H2 c (List.replicate i 0) := rs.oc.keep rs.fn a3 (fun j hj ht => (rs.vc j ht).1 hj)
        have od2 : HL H2 d (List.replicate i 0) := rs.od.keep rs.fn a3 (fun j hj ht => (rs.vc j ht).2 hj)
        have L1 := ld rs.at_ 1 v rfl
        have s1 := qSt_one (R := Prop) a3.fn hp2 1 v'
        have u1 := Upd.set a3.fn hp2 (.cells (rc q v' c d 0 false))
        have hs1 : (rc q v c d 0 false).set 1 v' = rc q v' c d 0 false := rfl
        rw [hs1] at s1
        generalize H2.set B.nx (some (.cells (rc q v' c d 0 false))) = H3 at s1 u1
        have rs3 : RS H3 B.nx q ((ws.take (i + 1)).map cutW) (List.replicate i 0) (List.replicate i 0) 0 false v' c d := by
          have hpv : ¬ tokOf v' B.nx := fun hj => by have := a2.tok_get hj; rw [hp2] at this; cases this
          exact ⟨u1.fn, u1.at_, a2.keep a3.fn u1.ext (fun j hj e => hpv (e ▸ hj)), oc2.keep a3.fn u1.ext (fun j hj e => rs.pc (e ▸ hj)), od2.keep a3.fn u1.ext (fun j hj e => rs.pd (e ▸ hj)), rs.pc, rs.pd, rs.cd⟩
        -- what it has, what it was given
        have L2 := ld rs3.at_ 2 c rfl
        have L3 := ld rs3.at_ 3 d rfl
        obtain ⟨c', H4, b1, b2, b3, b5⟩ := app_h rs3.fn rs3.oc (by simp; omega) 0
        rw [rep1] at b2
        have hp4 : H4.get B.nx = some (.cells (rc q v' c d 0 false)) := (b3.keep B.nx (rs3.fn.lt rs3.at_) rs3.pc).trans rs3.at_
        have od4 : HL H4 d (List.replicate i 0) := rs3.od.keep rs3.fn b3 (fun j hj ht => rs3.cd j ht hj)
        have ov4 : Own H4 v' _ := rs3.ov.keep rs3.fn b3 (fun j hj ht => (rs3.vc j hj).1 ht)
        have L3b := ld hp4 3 d rfl
        obtain ⟨d', H5, f1, f2, f3, f5⟩ := app_h b3.fn od4 (by simp; omega) 0
        rw [rep1] at f2
        have cn : ∀ j, adr c' j → ¬ adr d j := fun j hj hd => by have := b5 j hj; have := rs3.od.adr_lt rs3.fn hd; omega
        have hp5 : H5.get B.nx = some (.cells (rc q v' c d 0 false)) := (f3.keep B.nx (b3.fn.lt hp4) rs3.pd).trans hp4
        have oc5 : HL H5 c' (List.replicate (i + 1) 0) := b2.keep b3.fn f3 cn
        have ov5 : Own H5 v' _ := ov4.keep b3.fn f3 (fun j hj ht => by have e1 := ov4.tok_get hj; rw [od4.adr_get ht] at e1; cases e1)
        have s2 := qSt_one (R := Prop) f3.fn hp5 2 c'
        have u2 := Upd.set f3.fn hp5 (.cells (rc q v' c' d 0 false))
        have hs2 : (rc q v' c d 0 false).set 2 c' = rc q v' c' d 0 false := rfl
        rw [hs2] at s2
        generalize H5.set B.nx (some (.cells (rc q v' c' d 0 false))) = H6 at s2 u2
        have s3 := qSt_one (R := Prop) u2.fn u2.at_ 3 d'
        have u3 := Upd.set u2.fn u2.at_ (.cells (rc q v' c' d' 0 false))
        have hs3 : (rc q v' c' d 0 false).set 3 d' = rc q v' c' d' 0 false := rfl
        rw [hs3] at s3
        generalize H6.set B.nx (some (.cells (rc q v' c' d' 0 false))) = H7 at s3 u3
        have u := u2.trans u3
        have pc' : ¬ adr c' B.nx := fun hj => by have h1 := b2.adr_get hj; rw [hp4] at h1; have := b5 _ hj; have := rs3.fn.lt rs3.at_; omega
        have pd' : ¬ adr d' B.nx := fun hj => by have := f5 _ hj; have := b3.fn.lt hp4; omega
        have pv' : ¬ tokOf v' B.nx := rs3.pv
        have rs7 : RS H7 B.nx q ((ws.take (i + 1)).map cutW) (List.replicate (i + 1) 0) (List.replicate (i + 1) 0) 0 false v' c' d' :=
          ⟨u.fn, u.at_, ov5.keep f3.fn u.ext (fun j hj e => pv' (e ▸ hj)), oc5.keep f3.fn u.ext (fun j hj e => pc' (e ▸ hj)), f2.keep f3.fn u.ext (fun j hj e => pd' (e ▸ hj)), pc', pd', fun j hj hd => by
            have := f5 j hd; have := b2.adr_lt b3.fn hj; omega⟩
        have e7 : Ext B H7 (fun _ => False) := by
          have x1 := ext.trans a3 (fun j hj h => by have := tv j h; omega)
          have x2 := x1.trans u1.ext (fun j hj h => by omega)
          have x3 := x2.trans b3 (fun j hj h => by have := tc j h; omega)
          have x4 := x3.trans f3 (fun j hj h => by have := td j h; omega)
          exact x4.trans u.ext (fun j hj h => by omega)
        have nx1 := ext.nx
        have nx2 := (ext.trans a3 (fun j hj h => by have := tv j h; omega)).nx
        have nx4 := b3.nx
        have nx3 := u1.nx
        have hl1 : (rc q v c d 0 false).length = 6 := rfl
        have hl2 : (rc q v' c d 0 false).length = 6 := rfl
        have hl3 : (rc q v' c' d 0 false).length = 6 := rfl
        simp only [l26_4, r26_3, r26_4, r26_5, r26_6, opn_z, opn_s, sel_z, sel_s, qCd_eq, qIf_true, qIf_false, qFn_eq, qBl_eq, qO_some, qRes_val, qHp_some, qPick_true, qPick_false, qG_tt, qG_ff, qG_tf, qG_ft, cellsK_some, qLd_vptr, qLdA_vptr, qFa_ptr, qFa_vptr, qNc_ptr, qNc_vptr, qNc_fn, qNot_bool, qExt_tup, qCallV_fn, qLss_int, qLeq_int, qGtr_int, qGeq_int, qEql_int, qNeq_int, qAdd_int, qSub_int, qMul_int, qConvI_int, qLenL_sl, qLenL_hsl, qLenS_str, foldO, min2_int, max2_int, qSame_refl, Nat.zero_add, List.getElem?_cons_zero, List.getElem?_cons_succ, List.nil_append, List.cons_append, List.append_nil, one_bool, one_int, one_str, one_nilp, one_ptr, one_sl, one_hsl, one_map, one_fn, List.length_cons, List.length_nil, List.set_cons_zero, List.set_cons_succ, Nat.reduceLT, Nat.reduceAdd, qLd_vptr, h1', h2', decide_true, hia, ecut, rows1, L1, a1, s1, a2.one, hl1, L2, L3, b1, L3b, f1, s2, s3, b2.one, f2.one, hl2, hl3, wrap_succ i (by omega)]
        exact hk (8 - (i + 1)) _ _ (by omega) ⟨i + 1, v', c', d', _, _, rfl, by omega, rfl, e7, fun j hj => by have := a5 j hj; omega, fun j hj => by have := b5 j hj; omega, fun j hj => by have := f5 j hj; omega, rs7⟩
      · have h2' : ¬ (i : Int) < 8 := by omega
        have : i = min ws.length 8 := by omega
        subst this
        simp only [l26_4, r26_3, r26_7, opn_z, opn_s, sel_z, sel_s, qCd_eq, qIf_true, qIf_false, qFn_eq, qBl_eq, qO_some, qRes_val, qHp_some, qPick_true, qPick_false, qG_tt, qG_ff, qG_tf, qG_ft, cellsK_some, qLd_vptr, qLdA_vptr, qFa_ptr, qFa_vptr, qNc_ptr, qNc_vptr, qNc_fn, qNot_bool, qExt_tup, qCallV_fn, qLss_int, qLeq_int, qGtr_int, qGeq_int, qEql_int, qNeq_int, qAdd_int, qSub_int, qMul_int, qConvI_int, qLenL_sl, qLenL_hsl, qLenS_str, foldO, min2_int, max2_int, qSame_refl, Nat.zero_add, List.getElem?_cons_zero, List.getElem?_cons_succ, List.nil_append, List.cons_append, List.append_nil, one_bool, one_int, one_str, one_nilp, one_ptr, one_sl, one_hsl, one_map, one_fn, List.length_cons, List.length_nil, List.set_cons_zero, List.set_cons_succ, Nat.reduceLT, Nat.reduceAdd, h1', h2', decide_true, decide_false]
        exact ⟨_, v, c, d, rfl, ext, Nat.le_refl _, tc, td, rs⟩
    · have h1' : ¬ (i : Int) < ((intRows .i64 ws).length : Int) := by rw [intRows_len]; omega
      have : i = min ws.length 8 := by omega
      subst this
      simp only [l26_4, r26_3, r26_7, opn_z, opn_s, sel_z, sel_s, qCd_eq, qIf_true, qIf_false, qFn_eq, qBl_eq, qO_some, qRes_val, qHp_some, qPick_true, qPick_false, qG_tt, qG_ff, qG_tf, qG_ft, cellsK_some, qLd_vptr, qLdA_vptr, qFa_ptr, qFa_vptr, qNc_ptr, qNc_vptr, qNc_fn, qNot_bool, qExt_tup, qCallV_fn, qLss_int, qLeq_int, qGtr_int, qGeq_int, qEql_int, qNeq_int, qAdd_int, qSub_int, qMul_int, qConvI_int, qLenL_sl, qLenL_hsl, qLenS_str, foldO, min2_int, max2_int, qSame_refl, Nat.zero_add, List.getElem?_cons_zero, List.getElem?_cons_succ, List.nil_append, List.cons_append, List.append_nil, one_bool, one_int, one_str, one_nilp, one_ptr, one_sl, one_hsl, one_map, one_fn, List.length_cons, List.length_nil, List.set_cons_zero, List.set_cons_succ, Nat.reduceLT, Nat.reduceAdd, h1', decide_false]
      exact ⟨_, v, c, d, rfl, ext, Nat.le_refl _, tc, td, rs⟩
  · exact ⟨0, _, _, _, _, _, rfl, by omega, rfl, n1.ext, fun j h => absurd h (nt j), fun j h => absurd h (na j), fun j h => absurd h (na j), rs1⟩

/-- it stands at the next one -/
theorem ev_ron {H : AH} {p n pos : Nat} {q : Int} {zs cr sv : List Int} {vis : Bool} {v c d : AV} (rs : RS H p q zs cr sv pos vis v c d) (hz : zs.length = n) (hn : pos < n) (n8 : n ≤ 8) :
    ∃ H', evl X O 48 [.ptr p 0] H = some (.val (.tup []) H') ∧ RS H' p q zs cr sv ((pos + 1) % n) false v c d ∧ Ext H H' (· = p) := by
  obtain ⟨tk, hv⟩ := rs.ov.sl
  have hp := rs.at_
  have u1 := Upd.set rs.fn hp (.cells (rc q v c d ((pos + 1) % n) vis))
  have s1 := qSt_one (R := Prop) rs.fn hp 4 (.int .i64 (((pos + 1) % n : Nat) : Int))
  have hs1 : (rc q v c d pos vis).set 4 (.int .i64 (((pos + 1) % n : Nat) : Int)) = rc q v c d ((pos + 1) % n) vis := rfl
  rw [hs1] at s1
  generalize H.set p (some (.cells (rc q v c d ((pos + 1) % n) vis))) = H1 at u1 s1
  have u2 := Upd.set u1.fn u1.at_ (.cells (rc q v c d ((pos + 1) % n) false))
  have s2 := qSt_one (R := Prop) u1.fn u1.at_ 5 (.bool false)
  have hs2 : (rc q v c d ((pos + 1) % n) vis).set 5 (.bool false) = rc q v c d ((pos + 1) % n) false := rfl
  rw [hs2] at s2
  have u := u1.trans u2
  have hm : ((pos : Int) + 1).tmod (n : Int) = (((pos + 1) % n : Nat) : Int) := by
    rw [Int.tmod_eq_emod_of_nonneg (by omega)]
    simp
  have hrem := fun k => qRem_int (R := Prop) X 3 .i64 ((pos : Int) + 1) (n : Int) k (by omega)
  refine ⟨_, of_form_eq e48 xf48 (hO _ _ _ (by decide) (by decide)) ?_, ⟨u.fn, u.at_, rs.ov.keep rs.fn u.ext (fun j hj e => rs.pv (e ▸ hj)), rs.oc.keep rs.fn u.ext (fun j hj e => rs.pc (e ▸ hj)), rs.od.keep rs.fn u.ext (fun j hj e => rs.pd (e ▸ hj)), rs.pc, rs.pd, rs.cd⟩, u.ext⟩
  have L4 := ld hp 4 _ rfl
  have L1 := ld hp 1 _ rfl
  have hl1 : (rc q v c d pos vis).length = 6 := rfl
  have hl2 : (rc q v c d ((pos + 1) % n) vis).length = 6 := rfl
  have hlen : ∀ k : AV → Prop, qLenL v k = k (.int .i64 (n : Int)) := fun k => by rw [hv, qLenL_sl, intRows_len, hz]
  simp only [c48, r48_0, opn_z, opn_s, sel_z, sel_s, qCd_eq, qIf_true, qIf_false, qFn_eq, qBl_eq, qO_some, qRes_val, qHp_some, qPick_true, qPick_false, qG_tt, qG_ff, qG_tf, qG_ft, cellsK_some, qLd_vptr, qLdA_vptr, qFa_ptr, qFa_vptr, qNc_ptr, qNc_vptr, qNc_fn, qNot_bool, qExt_tup, qCallV_fn, qLss_int, qLeq_int, qGtr_int, qGeq_int, qEql_int, qNeq_int, qAdd_int, qSub_int, qMul_int, qConvI_int, qLenL_sl, qLenL_hsl, qLenS_str, foldO, min2_int, max2_int, qSame_refl, Nat.zero_add, List.getElem?_cons_zero, List.getElem?_cons_succ, List.nil_append, List.cons_append, List.append_nil, one_bool, one_int, one_str, one_nilp, one_ptr, one_sl, one_hsl, one_map, one_fn, List.length_cons, List.length_nil, List.set_cons_zero, List.set_cons_succ, Nat.reduceLT, Nat.reduceAdd, L4, L1, hlen, i64_in (x := (pos : Int) + 1) (by omega), hrem, hm, s1, s2, hl1, hl2]
  exact ⟨trivial, trivial⟩

end
end T
set_option linter.unusedVariables false
set_option linter.unusedSimpArgs false
set_option maxRecDepth 10000
namespace T
open Go Go.Aes Go.Proofs

abbrev hs (i n : Nat) : AV := .hsl i 0 n n 1 true

theorem adr_hs {i n j : Nat} (h : adr (hs i n) j) : j = i := by obtain ⟨m, h⟩ := h; injection h with h; exact h.symm

theorem HL.hs_len {H : AH} {i n : Nat} {zs : List Int} (h : HL H (hs i n) zs) : zs.length = n := by
  rcases h with ⟨h, _⟩ | ⟨_, t, h, _⟩
  · cases h
  · injection h with _ _ h; exact h.symm

theorem HL.set {H H' : AH} {i n k : Nat} {zs : List Int} {x : Int} (h : HL H (hs i n) zs) (h2 : H'.get i = some (.cells (T.ints (zs.set k x)))) : HL H' (hs i n) (zs.set k x) := by
  have hl := h.hs_len
  rcases h with ⟨h, _⟩ | ⟨h1, t, h, _⟩
  · cases h
  · refine .inr ⟨fun e => h1 ?_, i, by rw [List.length_set, hl], h2⟩
    have : (zs.set k x).length = 0 := by rw [e]; rfl
    rw [List.length_set] at this
    exact List.length_eq_zero_iff.1 this

section
variable {H : AH} {p ic iv n pos : Nat} {q : Int} {zs cr sv : List Int} {vis : Bool} {v : AV}

theorem RS.pic (rs : RS H p q zs cr sv pos vis v (hs ic n) (hs iv n)) : p ≠ ic ∧ p ≠ iv ∧ ic ≠ iv :=
  ⟨fun e => rs.pc ⟨n, by rw [e]⟩, fun e => rs.pd ⟨n, by rw [e]⟩, fun e => rs.cd ic ⟨n, rfl⟩ ⟨n, by rw [e]⟩⟩

theorem RS.set_c (rs : RS H p q zs cr sv pos vis v (hs ic n) (hs iv n)) {i : Nat} (hi : i < n) (x : Int) :
    ∃ H2, (∀ k : AV → AH → Prop, qSt 1 (.ptr ic i) (.int .i64 x) H k = k Aes.undef H2) ∧ RS H2 p q zs (cr.set i x) sv pos vis v (hs ic n) (hs iv n) ∧ Ext H H2 (· = ic) := by
  have hl := rs.oc.hs_len
  obtain ⟨h1, h2, h3⟩ := rs.pic
  have hg := rs.oc.adr_get ⟨n, rfl⟩
  have st := fun k => qSt_one (R := Prop) rs.fn hg i (.int .i64 x) k rfl (by rw [ints_len]; omega)
  rw [ints_set] at st
  have u := Upd.set rs.fn hg (.cells (ints (cr.set i x)))
  exact ⟨_, st, ⟨u.fn, (u.other p h1).trans rs.at_, rs.ov.keep rs.fn u.ext (fun j hj e => (rs.vc j hj).1 ⟨n, by rw [e]⟩), rs.oc.set u.at_, rs.od.keep rs.fn u.ext (fun j hj e => h3 (by rw [← e]; exact adr_hs hj)), rs.pc, rs.pd, rs.cd⟩, u.ext⟩

theorem RS.set_d (rs : RS H p q zs cr sv pos vis v (hs ic n) (hs iv n)) {i : Nat} (hi : i < n) (x : Int) :
    ∃ H2, (∀ k : AV → AH → Prop, qSt 1 (.ptr iv i) (.int .i64 x) H k = k Aes.undef H2) ∧ RS H2 p q zs cr (sv.set i x) pos vis v (hs ic n) (hs iv n) ∧ Ext H H2 (· = iv) := by
  have hl := rs.od.hs_len
  obtain ⟨h1, h2, h3⟩ := rs.pic
  have hg := rs.od.adr_get ⟨n, rfl⟩
  have st := fun k => qSt_one (R := Prop) rs.fn hg i (.int .i64 x) k rfl (by rw [ints_len]; omega)
  rw [ints_set] at st
  have u := Upd.set rs.fn hg (.cells (ints (sv.set i x)))
  exact ⟨_, st, ⟨u.fn, (u.other p h2).trans rs.at_, rs.ov.keep rs.fn u.ext (fun j hj e => (rs.vc j hj).2 ⟨n, by rw [e]⟩), rs.oc.keep rs.fn u.ext (fun j hj e => h3 (by rw [← e]; exact (adr_hs hj).symm)), rs.od.set u.at_, rs.pc, rs.pd, rs.cd⟩, u.ext⟩

theorem RS.set_vis (rs : RS H p q zs cr sv pos vis v (hs ic n) (hs iv n)) (b : Bool) :
    ∃ H2, (∀ k : AV → AH → Prop, qSt 1 (.ptr p 5) (.bool b) H k = k Aes.undef H2) ∧ RS H2 p q zs cr sv pos b v (hs ic n) (hs iv n) ∧ Ext H H2 (· = p) := by
  have st := fun k => qSt_one (R := Prop) rs.fn rs.at_ 5 (.bool b) k rfl (by show 5 < 6; decide)
  have hs5 : (rc q v (hs ic n) (hs iv n) pos vis).set 5 (.bool b) = rc q v (hs ic n) (hs iv n) pos b := rfl
  rw [hs5] at st
  have u := Upd.set rs.fn rs.at_ (.cells (rc q v (hs ic n) (hs iv n) pos b))
  exact ⟨_, st, ⟨u.fn, u.at_, rs.ov.keep rs.fn u.ext (fun j hj e => rs.pv (e ▸ hj)), rs.oc.keep rs.fn u.ext (fun j hj e => rs.pc (e ▸ hj)), rs.od.keep rs.fn u.ext (fun j hj e => rs.pd (e ▸ hj)), rs.pc, rs.pd, rs.cd⟩, u.ext⟩

theorem RS.ld_c (rs : RS H p q zs cr sv pos vis v (hs ic n) (hs iv n)) {i : Nat} (hi : i < n) (k : AV → Prop) : qLd (.ptr ic i) H k = k (.int .i64 (cr.getD i 0)) :=
  ld (rs.oc.adr_get ⟨n, rfl⟩) i _ (ints_get _ _ _ (getD_some (by rw [rs.oc.hs_len]; exact hi))) k
theorem RS.ld_d (rs : RS H p q zs cr sv pos vis v (hs ic n) (hs iv n)) {i : Nat} (hi : i < n) (k : AV → Prop) : qLd (.ptr iv i) H k = k (.int .i64 (sv.getD i 0)) :=
  ld (rs.od.adr_get ⟨n, rfl⟩) i _ (ints_get _ _ _ (getD_some (by rw [rs.od.hs_len]; exact hi))) k
end

section
variable {O : CallF} (hO : OutO O)
include hO

theorem ref_loop {H0 H : AH} {p pa ic iv n : Nat} {A B zs : List Int} {tk : Tk} {s : Sh} {R : Nat × Sh} {b : Int} (hpa : H0.nx ≤ pa) (hp0 : p < H0.nx ∧ ic < H0.nx ∧ iv < H0.nx) (hn : s.n = n) (hzs : zs = s.W.take n)
    (ok : s.Ok) (hpos : s.pos < s.n) (cb : CB s) (sb : SB s b) (hb : b ≤ 4000000000000000000) (ab : AB s A) (hB : B.length = n) (hBA : ∀ i, i < n → A.getD i 0 = max 0 (B.getD i 0))
    (rs : RS H p s.q zs (s.Cr.take n) (s.Sv.take n) s.pos s.vis (.sl (intRows .i64 zs) tk) (hs ic n) (hs iv n)) (h2 : H.get pa = some (.cells (ints B))) (ext : Ext H0 H (fun j => j = p ∨ j = ic ∨ j = iv)) {m : Nat} (hsr : srv A m s = some R) {Q : AV → AH → Prop}
    (hQ : ∀ H', Ext H0 H' (fun j => j = p ∨ j = ic ∨ j = iv) → RS H' p s.q zs (R.2.Cr.take n) (R.2.Sv.take n) R.2.pos R.2.vis (.sl (intRows .i64 zs) tk) (hs ic n) (hs iv n) → Q (.tup [.int .i64 (R.1 : Int), .bool true]) H')
    (x1 x4 x5 x6 x8 x9 x10 x11 x27 x52 x55 x72 x85 x126 : AV) :
    qLoop (l28_6 (evl X O) (fun fr H => Q (.tup [sel 2 fr, sel 3 fr]) H)) [.ptr p 0, x1, x4, x5, x6, hs pa n, x8, x9, x10, x11, x27, x52, x55, x72, x85, x126] H := by
  refine loop_inv (fun m fr H => ∃ (t : Sh) (x1 x4 x5 x6 x8 x9 x10 x11 x27 x52 x55 x72 x85 x126 : AV), fr = [.ptr p 0, x1, x4, x5, x6, hs pa n, x8, x9, x10, x11, x27, x52, x55, x72, x85, x126] ∧ t.Ok ∧ t.pos < t.n ∧ CB t ∧ SB t b ∧ AB t A ∧ t.q = s.q ∧ t.n = n ∧ t.W = s.W ∧
    RS H p s.q zs (t.Cr.take n) (t.Sv.take n) t.pos t.vis (.sl (intRows .i64 zs) tk) (hs ic n) (hs iv n) ∧ H.get pa = some (.cells (ints B)) ∧ Ext H0 H (fun j => j = p ∨ j = ic ∨ j = iv) ∧ srv A m t = some R) ?_ (m := m) ?_
  · rintro m fr H k ⟨t, x1, x4, x5, x6, x8, x9, x10, x11, x27, x52, x55, x72, x85, x126, rfl, ok, hpos, cb, sb, ab, eq1, eq2, eq3, rs, h2, ext, hsr⟩ hk
    cases m with
    | zero => cases hsr
    | succ m =>
      obtain ⟨o1, o2, o3, o4, o5, o6, o7, o8⟩ := stp_ok ok hpos cb sb ab
      have n8 := ok.n8
      have hp8 : t.pos < 8 := by omega
      have hpn : t.pos < n := by omega
      have ec := getD_some (l := t.Cr) (i := t.pos) (by rw [ok.c]; exact hp8)
      have ea := getD_some (l := A) (i := t.pos) (by rw [ab.1]; exact hp8)
      have ev := getD_some (l := t.Sv) (i := t.pos) (by rw [ok.v]; exact hp8)
      have ew := getD_some (l := t.W) (i := t.pos) (by rw [ok.w]; exact hp8)
      obtain ⟨a0, a1⟩ := ab.2 _ _ ea
      obtain ⟨c0, c1, c2⟩ := cb _ _ ec
      obtain ⟨w0, w1⟩ := ok.w1 _ _ ew
      obtain ⟨v0, v1⟩ := sb _ _ ev
      have q1 := ok.q1; have q2 := ok.q2
      have qw0 : 0 ≤ t.q * t.W.getD t.pos 0 := Int.mul_nonneg (by omega) w0
      have qw1 : t.q * t.W.getD t.pos 0 ≤ 20000 := by have := Int.mul_le_mul q2 w1 w0 (by decide); simpa using this
      have hBp := hBA t.pos hpn
      have LB := ld h2 t.pos _ (ints_get _ _ _ (getD_some (l := B) (i := t.pos) (by omega)))
      have IB := fun k => qIa_h pa n n t.pos true hpn k
      have IC := fun k => qIa_h ic n n t.pos true hpn k
      have IV := fun k => qIa_h iv n n t.pos true hpn k
      have hpl := hp0
      have hne1 : pa ≠ p := by omega
      have hne2 : pa ≠ ic := by omega
      have hne3 : pa ≠ iv := by omega
      have hwz : zs[t.pos]? = some (t.W.getD t.pos 0) := by rw [hzs, List.getElem?_take, if_pos hpn, eq3.symm]; exact ew
      have IW := qIa_ints (tk := tk) hwz
      have hzl : zs.length = n := by rw [hzs, List.length_take, ← eq3, ok.w]; omega
      have tc : ∀ (x : Int), (t.Cr.set t.pos x).take n = (t.Cr.take n).set t.pos x := fun x => List.take_set ..
      have tv : ∀ (x : Int), (t.Sv.set t.pos x).take n = (t.Sv.take n).set t.pos x := fun x => List.take_set ..
      -- behind a step that served nobody
      have next : ∀ (t1 : Sh) (H1 : AH) (x1 x4 x5 x6 x8 x9 x10 x11 x27 x52 x55 x72 x85 x126 : AV), t1.pos = t.pos → t1.n = n → RS H1 p s.q zs (t1.Cr.take n) (t1.Sv.take n) t1.pos t1.vis (.sl (intRows .i64 zs) tk) (hs ic n) (hs iv n) → Ext H H1 (fun j => j = p ∨ j = ic ∨ j = iv) → stp A t = ({ t1 with pos := (t1.pos + 1) % t1.n, vis := false }, none) →
          ∃ H2, evl X O 48 [.ptr p 0] H1 = some (.val (.tup []) H2) ∧ k [.ptr p 0, x1, x4, x5, x6, hs pa n, x8, x9, x10, x11, x27, x52, x55, x72, x85, x126] H2 := by
        intro t1 H1 x1 x4 x5 x6 x8 x9 x10 x11 x27 x52 x55 x72 x85 x126 kp kn k3 k4 k6
        obtain ⟨H2, u1, u2, u3⟩ := ev_ron hO k3 hzl (by omega) (by omega)
        refine ⟨H2, u1, ?_⟩
        rw [k6] at o1 o2 o3 o4 o5 o6 o7 o8
        have hs2 : srv A m { t1 with pos := (t1.pos + 1) % t1.n, vis := false } = some R := by
          simp only [srv, k6] at hsr
          exact hsr
        have e2 := (ext.trans k4 (fun j _ h => h)).trans u3 (fun j _ h => .inl h)
        refine hk m _ _ (Nat.lt_succ_self _) ⟨_, _, _, _, _, _, _, _, _, _, _, _, _, _, _, rfl, o1, by have h := o2; have h6 := o6; simp only at h h6 ⊢; omega, o3, o8 rfl, ⟨ab.1, by have h5 := o5; simp only at h5 ⊢; rw [h5]; exact ab.2⟩, o5.trans eq1, o6.trans eq2, o7.trans eq3, ?_, ?_, e2, hs2⟩
        · have h := u2
          simp only [kn]
          exact h
        · rw [u3.keep pa (k4.fn.lt ((k4.keep pa (rs.fn.lt h2) (by omega)).trans h2)) hne1, k4.keep pa (rs.fn.lt h2) (by omega)]
          exact h2
      have L4 := ld rs.at_ 4 _ rfl
      have L2 := ld rs.at_ 2 _ rfl
      have L5 := ld rs.at_ 5 _ rfl
      have L0 := ld rs.at_ 0 _ rfl
      have L1 := ld rs.at_ 1 _ rfl
      have LC := fun k => rs.ld_c hpn k
      rw [take_getD0 hpn] at LC
      by_cases hz : A.getD t.pos 0 = 0
      · have hz' : B.getD t.pos 0 ≤ 0 := by omega
        obtain ⟨H1, st, rs1, e1⟩ := rs.set_c hpn 0
        rw [← tc] at rs1
        obtain ⟨H2, n1, n2⟩ := next { t with Cr := t.Cr.set t.pos 0 } H1 x1 x4 x5 x6 x8 x9 x10 (.int .i64 (t.pos : Int)) x27 x52 x55 (.bool true) x85 x126 rfl eq2 rs1 (e1.weak (fun j _ h => .inr (.inl h)))
          (by unfold stp; simp only [if_pos hz])
        simp only [l28_6, r28_15, r28_16, r28_17, r28_18, opn_z, opn_s, sel_z, sel_s, qCd_eq, qIf_true, qIf_false, qFn_eq, qBl_eq, qO_some, qRes_val, qHp_some, qPick_true, qPick_false, qG_tt, qG_ff, qG_tf, qG_ft, cellsK_some, qLd_vptr, qLdA_vptr, qFa_ptr, qFa_vptr, qNc_ptr, qNc_vptr, qNc_fn, qNot_bool, qExt_tup, qCallV_fn, qLss_int, qLeq_int, qGtr_int, qGeq_int, qEql_int, qNeq_int, qAdd_int, qSub_int, qMul_int, qConvI_int, qLenL_sl, qLenL_hsl, qLenS_str, foldO, min2_int, max2_int, qSame_refl, Nat.zero_add, List.getElem?_cons_zero, List.getElem?_cons_succ, List.nil_append, List.cons_append, List.append_nil, one_bool, one_int, one_str, one_nilp, one_ptr, one_sl, one_hsl, one_map, one_fn, List.length_cons, List.length_nil, List.set_cons_zero, List.set_cons_succ, Nat.reduceLT, Nat.reduceAdd, L4, LB, IB, IC, hz', decide_true, L2, st, n1]
        exact n2
      · have hz' : ¬ B.getD t.pos 0 ≤ 0 := by omega
        have hAB : B.getD t.pos 0 = A.getD t.pos 0 := by omega
        -- behind what is added when it is come to
        have tail : ∀ (t1 : Sh) (H1 : AH) (c : Int) (x1 x4 x5 x6 x8 x9 x10 x27 x52 x55 x72 x85 x126 : AV), t1.pos = t.pos → t1.n = n → t1.Cr = t.Cr.set t.pos c → t1.vis = true → t1.Sv = t.Sv → t1.W = t.W → t1.q = t.q → 0 ≤ c → c ≤ 70000 → (if t.vis = true then t.Cr.getD t.pos 0 else t.Cr.getD t.pos 0 + t.q * t.W.getD t.pos 0) = c →
            RS H1 p s.q zs (t1.Cr.take n) (t1.Sv.take n) t1.pos t1.vis (.sl (intRows .i64 zs) tk) (hs ic n) (hs iv n) → Ext H H1 (fun j => j = p ∨ j = ic ∨ j = iv) →
            r28_21 (qCd (sel 15) (fun _ => r28_22 (r28_23 (fun fr H => Q (.tup [sel 2 fr, sel 3 fr]) H))) (fun k4 => k4) (r28_24 (evl X O) k))
              [.ptr p 0, x1, x4, x5, x6, hs pa n, x8, x9, x10, .int .i64 (t.pos : Int), x27, x52, x55, x72, x85, x126] H1 := by
          intro t1 H1 c x1 x4 x5 x6 x8 x9 x10 x27 x52 x55 x72 x85 x126 kp kn kc kv ks kw kq hc0 hc1 hce rs1 ke
          have h2' : H1.get pa = some (.cells (ints B)) := (ke.keep pa (rs.fn.lt h2) (by omega)).trans h2
          have LB1 := ld h2' t.pos _ (ints_get _ _ _ (getD_some (l := B) (i := t.pos) (by omega)))
          have ec1 : t1.Cr.getD t.pos 0 = c := by rw [kc]; exact getD_set_eq (by rw [ok.c]; exact hp8)
          have M2 := ld rs1.at_ 2 _ rfl
          have M3 := ld rs1.at_ 3 _ rfl
          have MC := fun k => rs1.ld_c hpn k
          rw [take_getD0 hpn, ec1] at MC
          have MV := fun k => rs1.ld_d hpn k
          rw [take_getD0 hpn, ks] at MV
          rw [hAB] at LB1
          by_cases hle : A.getD t.pos 0 ≤ c
          · obtain ⟨H2, st1, rs2, e2⟩ := rs1.set_c hpn (c - A.getD t.pos 0)
            obtain ⟨H3, st2, rs3, e3⟩ := rs2.set_d hpn (t.Sv.getD t.pos 0 + A.getD t.pos 0)
            have hst : stp A t = ({ t1 with Cr := t1.Cr.set t.pos (c - A.getD t.pos 0), Sv := t1.Sv.set t.pos (t.Sv.getD t.pos 0 + A.getD t.pos 0) }, some t.pos) := by
              unfold stp
              simp only [if_neg hz, hce, if_pos hle]
              obtain ⟨tq, tn, tW, tC, tS, tp, tv⟩ := t
              obtain ⟨uq, un, uW, uC, uS, up, uv⟩ := t1
              simp only at kp kn kc kv ks kw kq eq2
              subst kp; subst kn; subst kc; subst kv; subst ks; subst kw; subst kq; subst eq2
              simp only [set_set']
            have hR : R = (t.pos, { t1 with Cr := t1.Cr.set t.pos (c - A.getD t.pos 0), Sv := t1.Sv.set t.pos (t.Sv.getD t.pos 0 + A.getD t.pos 0) }) := by
              simp only [srv, hst, Option.some.injEq] at hsr
              exact hsr.symm
            have e4 := (((ext.trans ke (fun j _ h => h)).trans e2 (fun j _ h => .inr (.inl h))).trans e3 (fun j _ h => .inr (.inr h)))
            have hq := hQ H3 e4
            rw [hR] at hq
            have rs3' : RS H3 p s.q zs ((t1.Cr.set t.pos (c - A.getD t.pos 0)).take n) ((t1.Sv.set t.pos (t.Sv.getD t.pos 0 + A.getD t.pos 0)).take n) t1.pos t1.vis (.sl (intRows .i64 zs) tk) (hs ic n) (hs iv n) := by
              rw [List.take_set, List.take_set]
              exact rs3
            simp only [r28_21, r28_22, r28_23, opn_z, opn_s, sel_z, sel_s, qCd_eq, qIf_true, qIf_false, qFn_eq, qBl_eq, qO_some, qRes_val, qHp_some, qPick_true, qPick_false, qG_tt, qG_ff, qG_tf, qG_ft, cellsK_some, qLd_vptr, qLdA_vptr, qFa_ptr, qFa_vptr, qNc_ptr, qNc_vptr, qNc_fn, qNot_bool, qExt_tup, qCallV_fn, qLss_int, qLeq_int, qGtr_int, qGeq_int, qEql_int, qNeq_int, qAdd_int, qSub_int, qMul_int, qConvI_int, qLenL_sl, qLenL_hsl, qLenS_str, foldO, min2_int, max2_int, qSame_refl, Nat.zero_add, List.getElem?_cons_zero, List.getElem?_cons_succ, List.nil_append, List.cons_append, List.append_nil, one_bool, one_int, one_str, one_nilp, one_ptr, one_sl, one_hsl, one_map, one_fn, List.length_cons, List.length_nil, List.set_cons_zero, List.set_cons_succ, Nat.reduceLT, Nat.reduceAdd, M2, IC, MC, IB, LB1, hle, decide_true, M3, IV, MV, i64_in (x := c - A.getD t.pos 0) (by omega), i64_in (x := t.Sv.getD t.pos 0 + A.getD t.pos 0) (by omega), st1, st2]
            exact hq rs3'
          · have hst : stp A t = ({ t1 with pos := (t1.pos + 1) % t1.n, vis := false }, none) := by
              unfold stp
              simp only [if_neg hz, hce, if_neg hle]
              obtain ⟨tq, tn, tW, tC, tS, tp, tv⟩ := t
              obtain ⟨uq, un, uW, uC, uS, up, uv⟩ := t1
              simp only at kp kn kc kv ks kw kq eq2
              subst kp; subst kn; subst kc; subst kv; subst ks; subst kw; subst kq; subst eq2
              rfl
            obtain ⟨H2, n1, n2⟩ := next t1 H1 x1 x4 x5 x6 x8 x9 x10 (.int .i64 (t.pos : Int)) x27 x52 x55 x72 x85 (.bool false) kp kn rs1 ke hst
            simp only [r28_21, r28_24, opn_z, opn_s, sel_z, sel_s, qCd_eq, qIf_true, qIf_false, qFn_eq, qBl_eq, qO_some, qRes_val, qHp_some, qPick_true, qPick_false, qG_tt, qG_ff, qG_tf, qG_ft, cellsK_some, qLd_vptr, qLdA_vptr, qFa_ptr, qFa_vptr, qNc_ptr, qNc_vptr, qNc_fn, qNot_bool, qExt_tup, qCallV_fn, qLss_int, qLeq_int, qGtr_int, qGeq_int, qEql_int, qNeq_int, qAdd_int, qSub_int, qMul_int, qConvI_int, qLenL_sl, qLenL_hsl, qLenS_str, foldO, min2_int, max2_int, qSame_refl, Nat.zero_add, List.getElem?_cons_zero, List.getElem?_cons_succ, List.nil_append, List.cons_append, List.append_nil, one_bool, one_int, one_str, one_nilp, one_ptr, one_sl, one_hsl, one_map, one_fn, List.length_cons, List.length_nil, List.set_cons_zero, List.set_cons_succ, Nat.reduceLT, Nat.reduceAdd, M2, IC, MC, IB, LB1, hle, decide_false, n1]
            exact n2
        cases hvis : t.vis with
        | true =>
          have hset : t.Cr.set t.pos (t.Cr.getD t.pos 0) = t.Cr := set_self ec
          have tl := tail t H (t.Cr.getD t.pos 0) x1 x4 x5 x6 x8 x9 x10 x27 x52 x55 (.bool false) (.bool false) x126 rfl eq2 hset.symm hvis rfl rfl rfl c0 c1 (by rw [if_pos hvis]) rs (.refl rs.fn _)
          rw [hvis] at L5
          simp only [l28_6, r28_15, r28_16, r28_19, opn_z, opn_s, sel_z, sel_s, qCd_eq, qIf_true, qIf_false, qFn_eq, qBl_eq, qO_some, qRes_val, qHp_some, qPick_true, qPick_false, qG_tt, qG_ff, qG_tf, qG_ft, cellsK_some, qLd_vptr, qLdA_vptr, qFa_ptr, qFa_vptr, qNc_ptr, qNc_vptr, qNc_fn, qNot_bool, qExt_tup, qCallV_fn, qLss_int, qLeq_int, qGtr_int, qGeq_int, qEql_int, qNeq_int, qAdd_int, qSub_int, qMul_int, qConvI_int, qLenL_sl, qLenL_hsl, qLenS_str, foldO, min2_int, max2_int, qSame_refl, Nat.zero_add, List.getElem?_cons_zero, List.getElem?_cons_succ, List.nil_append, List.cons_append, List.append_nil, one_bool, one_int, one_str, one_nilp, one_ptr, one_sl, one_hsl, one_map, one_fn, List.length_cons, List.length_nil, List.set_cons_zero, List.set_cons_succ, Nat.reduceLT, Nat.reduceAdd, L4, LB, IB, hz', decide_false, L5, Bool.not_true]
          exact tl
        | false =>
          have c3 := c2 (.inr hvis)
          obtain ⟨H1, st1, rs1, e1⟩ := rs.set_c hpn (t.Cr.getD t.pos 0 + t.q * t.W.getD t.pos 0)
          obtain ⟨H2, st2, rs2, e2⟩ := rs1.set_vis true
          rw [← tc] at rs2
          have tl := tail { t with Cr := t.Cr.set t.pos (t.Cr.getD t.pos 0 + t.q * t.W.getD t.pos 0), vis := true } H2 (t.Cr.getD t.pos 0 + t.q * t.W.getD t.pos 0) x1 x4 x5 x6 x8 x9 x10 x27 x52 x55 (.bool false) (.bool true) x126 rfl eq2 rfl rfl rfl rfl rfl (by omega) (by omega) (by rw [if_neg (by rw [hvis]; decide)]) rs2
            ((e1.weak (fun j _ h => .inr (.inl h))).trans e2 (fun j _ h => .inl h))
          rw [hvis] at L5
          rw [← eq1] at L0
          simp only [l28_6, r28_15, r28_16, r28_19, r28_20, opn_z, opn_s, sel_z, sel_s, qCd_eq, qIf_true, qIf_false, qFn_eq, qBl_eq, qO_some, qRes_val, qHp_some, qPick_true, qPick_false, qG_tt, qG_ff, qG_tf, qG_ft, cellsK_some, qLd_vptr, qLdA_vptr, qFa_ptr, qFa_vptr, qNc_ptr, qNc_vptr, qNc_fn, qNot_bool, qExt_tup, qCallV_fn, qLss_int, qLeq_int, qGtr_int, qGeq_int, qEql_int, qNeq_int, qAdd_int, qSub_int, qMul_int, qConvI_int, qLenL_sl, qLenL_hsl, qLenS_str, foldO, min2_int, max2_int, qSame_refl, Nat.zero_add, List.getElem?_cons_zero, List.getElem?_cons_succ, List.nil_append, List.cons_append, List.append_nil, one_bool, one_int, one_str, one_nilp, one_ptr, one_sl, one_hsl, one_map, one_fn, List.length_cons, List.length_nil, List.set_cons_zero, List.set_cons_succ, Nat.reduceLT, Nat.reduceAdd, L4, LB, IB, hz', decide_false, L5, Bool.not_false, L2, IC, LC, L0, L1, IW, qLd_vptr, i64_in (x := t.q * t.W.getD t.pos 0) (by omega), i64_in (x := t.Cr.getD t.pos 0 + t.q * t.W.getD t.pos 0) (by omega), st1, st2]
          exact tl
  · exact ⟨s, _, _, _, _, _, _, _, _, _, _, _, _, _, _, rfl, ok, hpos, cb, sb, ab, rfl, hn, rfl, rs, h2, ext, hsr⟩

end
end T
set_option linter.unusedVariables false
set_option linter.unusedSimpArgs false
set_option maxRecDepth 10000
namespace T
open Go Go.Aes Go.Proofs

theorem getD_of2 {l : List Int} {i : Nat} {x : Int} (h : l[i]? = some x) : l.getD i 0 = x := by rw [List.getD_eq_getElem?_getD, h]; rfl

/-- of n places the first e by f, the others zero -/
def genL (n : Nat) (f : Nat → Int) (e : Nat) : List Int := (List.range n).map fun j => if j < e then f j else 0
theorem genL_len (n : Nat) (f : Nat → Int) (e : Nat) : (genL n f e).length = n := by simp [genL]
theorem genL_get (n : Nat) (f : Nat → Int) (e j : Nat) (h : j < n) : (genL n f e)[j]? = some (if j < e then f j else 0) := by
  unfold genL
  rw [List.getElem?_map, List.getElem?_range h]
  rfl
theorem genL_zero (n : Nat) (f : Nat → Int) : genL n f 0 = List.replicate n 0 := by
  apply List.ext_getElem?
  intro j
  by_cases h : j < n
  · rw [genL_get _ _ _ _ h, List.getElem?_replicate, if_pos h]
    simp
  · rw [List.getElem?_eq_none (by rw [genL_len]; omega), List.getElem?_eq_none (by simp; omega)]
theorem genL_set (n : Nat) (f : Nat → Int) (e : Nat) (h : e < n) : (genL n f e).set e (f e) = genL n f (e + 1) := by
  apply List.ext_getElem?
  intro j
  rw [List.getElem?_set]
  by_cases hj : j < n
  · by_cases e1 : e = j
    · subst e1
      rw [if_pos rfl, if_pos (by rw [genL_len]; exact h), genL_get _ _ _ _ hj, if_pos (by omega)]
    · rw [if_neg e1, genL_get _ _ _ _ hj, genL_get _ _ _ _ hj]
      have : (j < e + 1) ↔ (j < e) := by omega
      simp only [this]
  · rw [if_neg (by omega), List.getElem?_eq_none (by rw [genL_len]; omega), List.getElem?_eq_none (by rw [genL_len]; omega)]

/-- the first e zero -/
def zL (l : List Int) (e : Nat) : List Int := List.replicate e 0 ++ l.drop e
theorem zL_len (l : List Int) (e : Nat) (h : e ≤ l.length) : (zL l e).length = l.length := by simp [zL]; omega
theorem zL_zero (l : List Int) : zL l 0 = l := by simp [zL]
theorem zL_set (l : List Int) (e : Nat) (h : e < l.length) : (zL l e).set e 0 = zL l (e + 1) := by
  unfold zL
  rw [List.set_append_right _ _ (by simp), List.length_replicate, Nat.sub_self, List.drop_eq_getElem_cons h, List.set_cons_zero, List.replicate_succ']
  simp
theorem zL_all (l : List Int) (n : Nat) (h : l.length = n) : zL l n = List.replicate n 0 := by
  unfold zL
  rw [List.drop_of_length_le (by omega), List.append_nil]

theorem pad0_take (n : Nat) (h : n ≤ 8) : (pad8 []).take n = List.replicate n 0 := by
  unfold pad8
  simp only [List.nil_append, List.length_nil]
  rw [List.take_replicate]
  congr 1
  omega

section
variable {O : CallF} (hO : OutO O)
include hO

theorem ev_rnext {H : AH} {p ic iv n : Nat} {zs cs : List Int} {tk tk2 : Tk} {s : Sh} {b : Int} (hn : s.n = n) (hzs : zs = s.W.take n) (hcs : cs.length = n)
    (ok : s.Ok) (hpos : s.pos < s.n) (cb : CB s) (sb : SB s b) (hb : b ≤ 4000000000000000000)
    (rs : RS H p s.q zs (s.Cr.take n) (s.Sv.take n) s.pos s.vis (.sl (intRows .i64 zs) tk) (hs ic n) (hs iv n)) {Q : AV → AH → Prop}
    (hsome : ∀ {m : Nat} {R : Nat × Sh} {H' : AH}, someA s.q cs n = true → srv (askA s cs) m s = some R → Ext H H' (fun j => j = p ∨ j = ic ∨ j = iv) → RS H' p s.q zs (R.2.Cr.take n) (R.2.Sv.take n) R.2.pos R.2.vis (.sl (intRows .i64 zs) tk) (hs ic n) (hs iv n) → Q (.tup [.int .i64 (R.1 : Int), .bool true]) H')
    (hnone : ∀ {H' : AH}, someA s.q cs n = false → Ext H H' (fun j => j = p ∨ j = ic ∨ j = iv) → RS H' p s.q zs (List.replicate n 0) (s.Sv.take n) s.pos s.vis (.sl (intRows .i64 zs) tk) (hs ic n) (hs iv n) → Q (.tup [.int .i64 0, .bool false]) H') :
    c28 (evl X O) [.ptr p 0, .sl (intRows .i64 cs) tk2] H Q := by
  have n8 := ok.n8
  have q1 := ok.q1
  have q2 := ok.q2
  have hzl : zs.length = n := by rw [hzs, List.length_take, ok.w]; omega
  have L1 := ld rs.at_ 1 _ rfl
  have n1 := New.push rs.fn (.cells (ints (List.replicate n 0)))
  obtain ⟨hp1, hp2, hp3⟩ := rs.pic
  have hlt1 := rs.fn.lt rs.at_
  have hlt2 : ic < H.nx := rs.fn.lt (rs.oc.adr_get ⟨n, rfl⟩)
  have hlt3 : iv < H.nx := rs.fn.lt (rs.od.adr_get ⟨n, rfl⟩)
  have hlen : ((intRows .i64 zs).length : Int) = (n : Int) := by rw [intRows_len, hzl]
  simp only [c28, r28_0, r28_1, r28_2, r28_3, r28_4, opn_z, opn_s, sel_z, sel_s, qCd_eq, qIf_true, qIf_false, qFn_eq, qBl_eq, qO_some, qRes_val, qHp_some, qPick_true, qPick_false, qG_tt, qG_ff, qG_tf, qG_ft, cellsK_some, qLd_vptr, qLdA_vptr, qFa_ptr, qFa_vptr, qNc_ptr, qNc_vptr, qNc_fn, qNot_bool, qExt_tup, qCallV_fn, qLss_int, qLeq_int, qGtr_int, qGeq_int, qEql_int, qNeq_int, qAdd_int, qSub_int, qMul_int, qConvI_int, qLenL_sl, qLenL_hsl, qLenS_str, foldO, min2_int, max2_int, qSame_refl, Nat.zero_add, List.getElem?_cons_zero, List.getElem?_cons_succ, List.nil_append, List.cons_append, List.append_nil, one_bool, one_int, one_str, one_nilp, one_ptr, one_sl, one_hsl, one_map, one_fn, List.length_cons, List.length_nil, List.set_cons_zero, List.set_cons_succ, Nat.reduceLT, Nat.reduceAdd, L1, hlen, mkS rs.fn n (by omega)]
  generalize H.push (.cells (ints (List.replicate n 0))) = H1 at n1
  have e1 : Ext H H1 (fun j => j = p ∨ j = ic ∨ j = iv) := n1.ext.weak (fun _ _ h => h.elim)
  have rs1 := rs.keep n1.ext (fun h => h) (fun _ _ h => h) (fun _ _ h => h) (fun _ _ h => h)
  have a1 := n1.at_
  clear n1
  generalize hpa : H.nx = pa at *
  refine loop_inv (fun m fr H' => ∃ (i : Nat) (x10 x11 x27 x52 x55 x72 x85 x126 : AV), m = 8 - i ∧ i ≤ n ∧ fr = [.ptr p 0, .sl (intRows .i64 cs) tk2, .int .i64 0, .bool false, .int .i64 (n : Int), hs pa n, .bool (someA s.q cs i), .int .i64 (i : Int), x10, x11, x27, x52, x55, x72, x85, x126] ∧
    Ext H H' (fun j => j = p ∨ j = ic ∨ j = iv) ∧ RS H' p s.q zs (s.Cr.take n) (s.Sv.take n) s.pos s.vis (.sl (intRows .i64 zs) tk) (hs ic n) (hs iv n) ∧ H'.get pa = some (.cells (ints (genL n (fun j => min (cs.getD j 0) (50 * s.q)) i)))) ?_ (m := 8) ?_
  · rintro m fr H' k ⟨i, x10, x11, x27, x52, x55, x72, x85, x126, rfl, hi, rfl, ext, rs, g2⟩ hk
    by_cases l1 : i < n
    · have l1' : (i : Int) < (n : Int) := by omega
      have l2' : (i : Int) < ((intRows .i64 cs).length : Int) := by rw [intRows_len]; omega
      have hz := getD_some (l := cs) (i := i) (by omega)
      have hia := qIa_ints (tk := tk2) hz
      have L0 := ld rs.at_ 0 _ rfl
      have hst := qSt_one (R := Prop) rs.fn g2 i (.int .i64 (min (cs.getD i 0) (50 * s.q)))
      have hset : (genL n (fun j => min (cs.getD j 0) (50 * s.q)) i).set i (min (cs.getD i 0) (50 * s.q)) = genL n (fun j => min (cs.getD j 0) (50 * s.q)) (i + 1) := genL_set n (fun j => min (cs.getD j 0) (50 * s.q)) i l1
      rw [ints_set, hset] at hst
      have u := Upd.set rs.fn g2 (.cells (ints (genL n (fun j => min (cs.getD j 0) (50 * s.q)) (i + 1))))
      have hl : (ints (genL n (fun j => min (cs.getD j 0) (50 * s.q)) i)).length = n := by rw [ints_len, genL_len]
      generalize H'.set pa (some (.cells (ints (genL n (fun j => min (cs.getD j 0) (50 * s.q)) (i + 1))))) = H2 at hst u
      have hg := genL_get n (fun j => min (cs.getD j 0) (50 * s.q)) (i + 1) i l1
      rw [if_pos (by omega)] at hg
      have LA := ld u.at_ i _ (ints_get _ _ _ hg)
      have rs2 := rs.keep u.ext (by omega) (fun j hj e => by have := rs.ov.tok_get hj; rw [e, g2] at this; cases this) (fun j hj e => by have := adr_hs hj; omega) (fun j hj e => by have := adr_hs hj; omega)
      have e2 := ext.trans u.ext (fun j hj h => by omega)
      have hs1 : someA s.q cs (i + 1) = (someA s.q cs i || decide (0 < min (cs.getD i 0) (50 * s.q))) := by
        have hd : decide (0 < min (cs.getD i 0) (50 * s.q)) = decide (0 < max 0 (min (cs.getD i 0) (50 * s.q))) := by
          congr 1
          apply propext
          constructor <;> intro h <;> omega
        rw [hd]
        unfold someA
        rw [List.take_succ_eq_append_getElem (by omega), List.any_append]
        have : cs[i]'(by omega) = cs.getD i 0 := by rw [List.getD_eq_getElem?_getD, List.getElem?_eq_getElem (by omega)]; rfl
        rw [this]
        simp
      have fin := fun (x10 x11 x27 x52 x55 x72 x85 x126 : AV) => hk (8 - (i + 1)) [.ptr p 0, .sl (intRows .i64 cs) tk2, .int .i64 0, .bool false, .int .i64 (n : Int), hs pa n, .bool (someA s.q cs (i + 1)), .int .i64 ((i + 1 : Nat) : Int), x10, x11, x27, x52, x55, x72, x85, x126] H2 (by omega) ⟨i + 1, _, _, _, _, _, _, _, _, rfl, by omega, rfl, e2, rs2, u.at_⟩
      rw [hs1] at fin
      cases hbv : someA s.q cs i with
      | true =>
        rw [hbv] at fin
        simp only [l28_15, r28_5, r28_6, r28_7, r28_8, opn_z, opn_s, sel_z, sel_s, qCd_eq, qIf_true, qIf_false, qFn_eq, qBl_eq, qO_some, qRes_val, qHp_some, qPick_true, qPick_false, qG_tt, qG_ff, qG_tf, qG_ft, cellsK_some, qLd_vptr, qLdA_vptr, qFa_ptr, qFa_vptr, qNc_ptr, qNc_vptr, qNc_fn, qNot_bool, qExt_tup, qCallV_fn, qLss_int, qLeq_int, qGtr_int, qGeq_int, qEql_int, qNeq_int, qAdd_int, qSub_int, qMul_int, qConvI_int, qLenL_sl, qLenL_hsl, qLenS_str, foldO, min2_int, max2_int, qSame_refl, Nat.zero_add, List.getElem?_cons_zero, List.getElem?_cons_succ, List.nil_append, List.cons_append, List.append_nil, one_bool, one_int, one_str, one_nilp, one_ptr, one_sl, one_hsl, one_map, one_fn, List.length_cons, List.length_nil, List.set_cons_zero, List.set_cons_succ, Nat.reduceLT, Nat.reduceAdd, qLd_vptr, l1', l2', decide_true, hia, L0, i64_in (x := 50 * s.q) (by omega), qIa_h pa n n i true l1, hst, hl, l1, wrap_succ i (by omega)]
        exact fin x10 x11 (.bool true) x52 x55 x72 x85 x126
      | false =>
        rw [hbv] at fin
        simp only [l28_15, r28_5, r28_6, r28_7, r28_8, opn_z, opn_s, sel_z, sel_s, qCd_eq, qIf_true, qIf_false, qFn_eq, qBl_eq, qO_some, qRes_val, qHp_some, qPick_true, qPick_false, qG_tt, qG_ff, qG_tf, qG_ft, cellsK_some, qLd_vptr, qLdA_vptr, qFa_ptr, qFa_vptr, qNc_ptr, qNc_vptr, qNc_fn, qNot_bool, qExt_tup, qCallV_fn, qLss_int, qLeq_int, qGtr_int, qGeq_int, qEql_int, qNeq_int, qAdd_int, qSub_int, qMul_int, qConvI_int, qLenL_sl, qLenL_hsl, qLenS_str, foldO, min2_int, max2_int, qSame_refl, Nat.zero_add, List.getElem?_cons_zero, List.getElem?_cons_succ, List.nil_append, List.cons_append, List.append_nil, one_bool, one_int, one_str, one_nilp, one_ptr, one_sl, one_hsl, one_map, one_fn, List.length_cons, List.length_nil, List.set_cons_zero, List.set_cons_succ, Nat.reduceLT, Nat.reduceAdd, qLd_vptr, l1', l2', decide_true, hia, L0, i64_in (x := 50 * s.q) (by omega), qIa_h pa n n i true l1, hst, hl, l1, LA, wrap_succ i (by omega)]
        exact fin x10 x11 (.bool true) x52 x55 x72 x85 x126
    · have l1' : ¬ (i : Int) < (n : Int) := by omega
      have : i = n := by omega
      subst this
      cases hbv : someA s.q cs i with
      | true =>
        obtain ⟨j, hj, ha⟩ := someA_spec ok cs (by rw [hn, hcs, Nat.min_self]; exact hbv)
        obtain ⟨m, R, hr⟩ := srv_some ha _ s (Nat.lt_succ_self _) ok hpos hj cb sb (askA_ab ok cs)
        simp only [l28_15, r28_5, r28_9, opn_z, opn_s, sel_z, sel_s, qCd_eq, qIf_true, qIf_false, qFn_eq, qBl_eq, qO_some, qRes_val, qHp_some, qPick_true, qPick_false, qG_tt, qG_ff, qG_tf, qG_ft, cellsK_some, qLd_vptr, qLdA_vptr, qFa_ptr, qFa_vptr, qNc_ptr, qNc_vptr, qNc_fn, qNot_bool, qExt_tup, qCallV_fn, qLss_int, qLeq_int, qGtr_int, qGeq_int, qEql_int, qNeq_int, qAdd_int, qSub_int, qMul_int, qConvI_int, qLenL_sl, qLenL_hsl, qLenS_str, foldO, min2_int, max2_int, qSame_refl, Nat.zero_add, List.getElem?_cons_zero, List.getElem?_cons_succ, List.nil_append, List.cons_append, List.append_nil, one_bool, one_int, one_str, one_nilp, one_ptr, one_sl, one_hsl, one_map, one_fn, List.length_cons, List.length_nil, List.set_cons_zero, List.set_cons_succ, Nat.reduceLT, Nat.reduceAdd, l1', decide_false, hbv, Bool.not_true]
        refine ref_loop hO (H0 := H) (A := askA s cs) (B := genL i (fun j => min (cs.getD j 0) (50 * s.q)) i) (by omega) ⟨by omega, by omega, by omega⟩ hn hzs ok hpos cb sb hb (askA_ab ok cs) (genL_len _ _ _) (fun l hl => ?_) rs g2 ext hr (fun H' h1 h2 => hsome hbv hr h1 h2) _ _ _ _ _ _ _ _ _ _ _ _ _ _
        rw [askA_get (by omega) (by omega), getD_of2 (genL_get _ _ _ _ hl), if_pos hl]
      | false =>
        simp only [l28_15, r28_5, r28_9, r28_10, opn_z, opn_s, sel_z, sel_s, qCd_eq, qIf_true, qIf_false, qFn_eq, qBl_eq, qO_some, qRes_val, qHp_some, qPick_true, qPick_false, qG_tt, qG_ff, qG_tf, qG_ft, cellsK_some, qLd_vptr, qLdA_vptr, qFa_ptr, qFa_vptr, qNc_ptr, qNc_vptr, qNc_fn, qNot_bool, qExt_tup, qCallV_fn, qLss_int, qLeq_int, qGtr_int, qGeq_int, qEql_int, qNeq_int, qAdd_int, qSub_int, qMul_int, qConvI_int, qLenL_sl, qLenL_hsl, qLenS_str, foldO, min2_int, max2_int, qSame_refl, Nat.zero_add, List.getElem?_cons_zero, List.getElem?_cons_succ, List.nil_append, List.cons_append, List.append_nil, one_bool, one_int, one_str, one_nilp, one_ptr, one_sl, one_hsl, one_map, one_fn, List.length_cons, List.length_nil, List.set_cons_zero, List.set_cons_succ, Nat.reduceLT, Nat.reduceAdd, l1', decide_false, hbv, Bool.not_false]
        have hcl : (s.Cr.take i).length = i := by rw [List.length_take, ok.c]; omega
        refine loop_inv (fun m fr H' => ∃ (e : Nat) (x7 x8 x9 x11 x27 x52 x55 x72 x85 x126 : AV), m = 8 - e ∧ e ≤ i ∧ fr = [.ptr p 0, .sl (intRows .i64 cs) tk2, .int .i64 0, .bool false, .int .i64 (i : Int), x7, x8, x9, .int .i64 (e : Int), x11, x27, x52, x55, x72, x85, x126] ∧
          Ext H H' (fun j => j = p ∨ j = ic ∨ j = iv) ∧ RS H' p s.q zs (zL (s.Cr.take i) e) (s.Sv.take i) s.pos s.vis (.sl (intRows .i64 zs) tk) (hs ic i) (hs iv i)) ?_ (m := 8) ?_
        · rintro m fr H' k ⟨e, x7, x8, x9, x11, x27, x52, x55, x72, x85, x126, rfl, he, rfl, ext, rs⟩ hk
          by_cases l3 : e < i
          · have l3' : (e : Int) < (i : Int) := by omega
            have L2 := ld rs.at_ 2 _ rfl
            obtain ⟨H2, st, rs2, e2⟩ := rs.set_c l3 0
            rw [zL_set _ _ (by omega)] at rs2
            simp only [l28_11, r28_11, r28_12, r28_13, opn_z, opn_s, sel_z, sel_s, qCd_eq, qIf_true, qIf_false, qFn_eq, qBl_eq, qO_some, qRes_val, qHp_some, qPick_true, qPick_false, qG_tt, qG_ff, qG_tf, qG_ft, cellsK_some, qLd_vptr, qLdA_vptr, qFa_ptr, qFa_vptr, qNc_ptr, qNc_vptr, qNc_fn, qNot_bool, qExt_tup, qCallV_fn, qLss_int, qLeq_int, qGtr_int, qGeq_int, qEql_int, qNeq_int, qAdd_int, qSub_int, qMul_int, qConvI_int, qLenL_sl, qLenL_hsl, qLenS_str, foldO, min2_int, max2_int, qSame_refl, Nat.zero_add, List.getElem?_cons_zero, List.getElem?_cons_succ, List.nil_append, List.cons_append, List.append_nil, one_bool, one_int, one_str, one_nilp, one_ptr, one_sl, one_hsl, one_map, one_fn, List.length_cons, List.length_nil, List.set_cons_zero, List.set_cons_succ, Nat.reduceLT, Nat.reduceAdd, l3', decide_true, L2, qIa_h ic i i e true l3, st, wrap_succ e (by omega)]
            exact hk (8 - (e + 1)) _ _ (by omega) ⟨e + 1, _, _, _, _, _, _, _, _, _, _, rfl, by omega, rfl, ext.trans e2 (fun j _ h => .inr (.inl h)), rs2⟩
          · have l3' : ¬ (e : Int) < (i : Int) := by omega
            have : e = i := by omega
            subst this
            rw [zL_all _ _ hcl] at rs
            simp only [l28_11, r28_11, r28_14, opn_z, opn_s, sel_z, sel_s, qCd_eq, qIf_true, qIf_false, qFn_eq, qBl_eq, qO_some, qRes_val, qHp_some, qPick_true, qPick_false, qG_tt, qG_ff, qG_tf, qG_ft, cellsK_some, qLd_vptr, qLdA_vptr, qFa_ptr, qFa_vptr, qNc_ptr, qNc_vptr, qNc_fn, qNot_bool, qExt_tup, qCallV_fn, qLss_int, qLeq_int, qGtr_int, qGeq_int, qEql_int, qNeq_int, qAdd_int, qSub_int, qMul_int, qConvI_int, qLenL_sl, qLenL_hsl, qLenS_str, foldO, min2_int, max2_int, qSame_refl, Nat.zero_add, List.getElem?_cons_zero, List.getElem?_cons_succ, List.nil_append, List.cons_append, List.append_nil, one_bool, one_int, one_str, one_nilp, one_ptr, one_sl, one_hsl, one_map, one_fn, List.length_cons, List.length_nil, List.set_cons_zero, List.set_cons_succ, Nat.reduceLT, Nat.reduceAdd, l3', decide_false]
            exact hnone hbv ext rs
        · exact ⟨0, _, _, _, _, _, _, _, _, _, _, rfl, by omega, rfl, ext, by rw [zL_zero]; exact rs⟩
  · exact ⟨0, _, _, _, _, _, _, _, _, rfl, by omega, rfl, e1, rs1, by rw [genL_zero]; exact a1⟩

theorem ev_same {H : AH} {v c : AV} {zs : List Int} (hv : Ints H v zs) (hc : Ints H c zs) (hl : zs.length ≤ 1000) : evl X O 29 [v, c] H = some (.val (.bool true) H) := by
  refine of_form_eq e29 xf29 (hO _ _ _ (by decide) (by decide)) ?_
  have hlv : ∀ k : AV → Prop, qLenL v k = k (.int .i64 (zs.length : Int)) := fun k => by
    rcases hv with ⟨t, rfl⟩ | ⟨i, g, rfl, _⟩
    · rw [qLenL_sl, intRows_len]
    · rw [qLenL_hsl]
  have hlc : ∀ k : AV → Prop, qLenL c k = k (.int .i64 (zs.length : Int)) := fun k => by
    rcases hc with ⟨t, rfl⟩ | ⟨i, g, rfl, _⟩
    · rw [qLenL_sl, intRows_len]
    · rw [qLenL_hsl]
  simp only [c29, r29_0, r29_1, r29_3, opn_z, opn_s, sel_z, sel_s, qCd_eq, qIf_true, qIf_false, qFn_eq, qBl_eq, qO_some, qRes_val, qHp_some, qPick_true, qPick_false, qG_tt, qG_ff, qG_tf, qG_ft, cellsK_some, qLd_vptr, qLdA_vptr, qFa_ptr, qFa_vptr, qNc_ptr, qNc_vptr, qNc_fn, qNot_bool, qExt_tup, qCallV_fn, qLss_int, qLeq_int, qGtr_int, qGeq_int, qEql_int, qNeq_int, qAdd_int, qSub_int, qMul_int, qConvI_int, qLenL_sl, qLenL_hsl, qLenS_str, foldO, min2_int, max2_int, qSame_refl, Nat.zero_add, List.getElem?_cons_zero, List.getElem?_cons_succ, List.nil_append, List.cons_append, List.append_nil, one_bool, one_int, one_str, one_nilp, one_ptr, one_sl, one_hsl, one_map, one_fn, List.length_cons, List.length_nil, List.set_cons_zero, List.set_cons_succ, Nat.reduceLT, Nat.reduceAdd, hlv, hlc, beq_self_eq_true, Bool.not_true]
  refine loop_inv (fun m fr H' => ∃ (i : Nat) (x4 x10 x14 x25 : AV), m = zs.length - i ∧ i ≤ zs.length ∧ fr = [v, c, x4, .int .i64 (i : Int), x10, x14, x25] ∧ H' = H) ?_ (m := zs.length) ?_
  · rintro m fr H' k ⟨i, x4, x10, x14, x25, rfl, hi, rfl, rfl⟩ hk
    by_cases l1 : i < zs.length
    · have l1' : (i : Int) < (zs.length : Int) := by omega
      have hz := getD_some l1
      obtain ⟨a, a1, a2⟩ := hv.at_ hz
      obtain ⟨d, d1, d2⟩ := hc.at_ hz
      simp only [l29_5, r29_4, r29_5, r29_6, opn_z, opn_s, sel_z, sel_s, qCd_eq, qIf_true, qIf_false, qFn_eq, qBl_eq, qO_some, qRes_val, qHp_some, qPick_true, qPick_false, qG_tt, qG_ff, qG_tf, qG_ft, cellsK_some, qLd_vptr, qLdA_vptr, qFa_ptr, qFa_vptr, qNc_ptr, qNc_vptr, qNc_fn, qNot_bool, qExt_tup, qCallV_fn, qLss_int, qLeq_int, qGtr_int, qGeq_int, qEql_int, qNeq_int, qAdd_int, qSub_int, qMul_int, qConvI_int, qLenL_sl, qLenL_hsl, qLenS_str, foldO, min2_int, max2_int, qSame_refl, Nat.zero_add, List.getElem?_cons_zero, List.getElem?_cons_succ, List.nil_append, List.cons_append, List.append_nil, one_bool, one_int, one_str, one_nilp, one_ptr, one_sl, one_hsl, one_map, one_fn, List.length_cons, List.length_nil, List.set_cons_zero, List.set_cons_succ, Nat.reduceLT, Nat.reduceAdd, hlv, l1', decide_true, a1, a2, d1, d2, beq_self_eq_true, Bool.not_true, wrap_succ i (by omega)]
      exact hk (zs.length - (i + 1)) _ _ (by omega) ⟨i + 1, _, _, _, _, rfl, by omega, rfl, rfl⟩
    · have l1' : ¬ (i : Int) < (zs.length : Int) := by omega
      simp only [l29_5, r29_4, r29_8, opn_z, opn_s, sel_z, sel_s, qCd_eq, qIf_true, qIf_false, qFn_eq, qBl_eq, qO_some, qRes_val, qHp_some, qPick_true, qPick_false, qG_tt, qG_ff, qG_tf, qG_ft, cellsK_some, qLd_vptr, qLdA_vptr, qFa_ptr, qFa_vptr, qNc_ptr, qNc_vptr, qNc_fn, qNot_bool, qExt_tup, qCallV_fn, qLss_int, qLeq_int, qGtr_int, qGeq_int, qEql_int, qNeq_int, qAdd_int, qSub_int, qMul_int, qConvI_int, qLenL_sl, qLenL_hsl, qLenS_str, foldO, min2_int, max2_int, qSame_refl, Nat.zero_add, List.getElem?_cons_zero, List.getElem?_cons_succ, List.nil_append, List.cons_append, List.append_nil, one_bool, one_int, one_str, one_nilp, one_ptr, one_sl, one_hsl, one_map, one_fn, List.length_cons, List.length_nil, List.set_cons_zero, List.set_cons_succ, Nat.reduceLT, Nat.reduceAdd, hlv, l1', decide_false]
      exact ⟨trivial, trivial⟩
  · exact ⟨0, _, _, _, _, rfl, by omega, rfl, rfl⟩

end
end T
set_option linter.unusedVariables false
set_option linter.unusedSimpArgs false
set_option maxRecDepth 10000
namespace T
open Go Go.Aes Go.Proofs

theorem slc22 (zs : List Int) (tk : Tk) (a b : Nat) (h1 : a ≤ b) (h2 : b ≤ zs.length) : ∃ tk', ∀ k : AV → Prop, qSlc Try.t22.desc 1 (.sl (intRows .i64 zs) tk) (some (.int .i64 (a : Int))) (some (.int .i64 (b : Int))) none k = k (.sl (intRows .i64 ((zs.take b).drop a)) tk') := by
  have hl : (intRows .i64 zs).length = zs.length := by simp [intRows]
  have hh : headOk (intRows .i64 zs) 1 = true := by cases zs <;> rfl
  have hb : bnd (some (.int .i64 (b : Int))) (intRows .i64 zs).length (intRows .i64 zs).length = some b := by
    have : b.ble (intRows .i64 zs).length = true := by rw [hl]; simpa using h2
    simp [bnd, asN, this]
  have ha : bnd (some (.int .i64 (a : Int))) 0 b = some a := by
    have : a.ble b = true := by simpa using h1
    simp [bnd, asN, this]
  refine ⟨cutTk tk a b 0 (intRows .i64 zs).length, fun k => ?_⟩
  have : sliceD Try.t22.desc 1 (.sl (intRows .i64 zs) tk) (some (.int .i64 (a : Int))) (some (.int .i64 (b : Int))) none = some (.sl (intRows .i64 ((zs.take b).drop a)) (cutTk tk a b 0 (intRows .i64 zs).length)) := by
    show (bif !headOk (intRows .i64 zs) 1 then none else
      match bnd (some (.int .i64 (b : Int))) (intRows .i64 zs).length (intRows .i64 zs).length with
      | none => none
      | some h => match bnd (some (.int .i64 (a : Int))) 0 h with
        | none => none
        | some l => some (AV.sl (((intRows .i64 zs).take h).drop l) (cutTk tk l h 0 (intRows .i64 zs).length))) = _
    rw [hh, hb]
    simp only [Bool.not_true, cond_false, ha]
    simp [intRows, List.map_take, List.map_drop]
  unfold qSlc
  rw [this, qO_some]

theorem app_copy {H : AH} (hf : Aes.Fn H) {zs : List Int} {tk : Tk} (hn : zs ≠ []) (hl : zs.length ≤ 1000000) :
    ∃ tk' H', (∀ k : AV → AH → Prop, qApp 1 8 (.sl [] .nil) (.sl (intRows .i64 zs) tk) false H k = k (.sl (intRows .i64 zs) tk') H') ∧ Ext H H' (fun _ => False) := by
  have hr : readRows 1 (.sl (intRows .i64 zs) tk) H = some (intRows .i64 zs) := by
    have : (intRows .i64 zs).all (fun r => r.length.beq 1) = true := by simp [intRows]
    simp only [readRows, this, cond_true]
  refine ⟨.own H.nx, H.push .tok, fun k => ?_, (New.push hf .tok).ext⟩
  cases zs with
  | nil => exact absurd rfl hn
  | cons z zs =>
    have hl : ((intRows .i64 (z :: zs)).length * (8 + 1)).blt most = true := by
      rw [Nat.blt_eq, intRows_len]
      unfold most
      omega
    have : app 1 8 (.sl [] .nil) (.sl (intRows .i64 (z :: zs)) tk) false H = some (.sl (intRows .i64 (z :: zs)) (.own H.nx), H.push .tok) := by
      unfold app
      rw [hr]
      simp only [List.length_nil, Nat.zero_add, hl]
      simp [hf.new, intRows]
      rfl
    unfold qApp
    rw [this]
    rfl

theorem pad8_take (l : List Int) : (pad8 l).take l.length = l := by unfold pad8; exact List.take_left' rfl

section
variable {O : CallF} (hO : OutO O)
include hO

theorem plays_cmp {H : AH} {pS pR pos : Nat} {q a : Int} {zs cr sv : List Int} {vis b : Bool} {v c d S2 S9 S10 : AV} {s : Sh} (rs : RS H pR q zs cr sv pos vis v c d) (hcr : s.Cr.take s.n = cr) (hsv : s.Sv.take s.n = sv) (ok : s.Ok)
    (g : H.get pS = some (.cells s.cells)) (K KR : KT Prop)
    (hK : ∀ H', Ext H H' (fun _ => False) → ∀ (x0 x1 x6 x11 x12 x13 x14 x22 x31 x43 x64 x103 : AV), K [x0, x1, S2, x6, .ptr pS 0, .ptr pR 0, S9, S10, x11, x12, x13, x14, x22, x31, x43, x64, x103] H')
    (x0 x1 x6 x22 x31 x43 x64 x103 : AV) :
    r6_14 (evl X O) (qCd (sel 16) (fun _ => KR) (fun k4 => k4) K) [x0, x1, S2, x6, .ptr pS 0, .ptr pR 0, S9, S10, .int .i64 a, .bool b, .int .i64 a, .bool b, x22, x31, x43, x64, x103] H := by
  have n8 := ok.n8
  obtain ⟨tk1, H2, b1, b2⟩ := ev_served hO rs.fn ok g
  have rs2 := rs.keep b2 (fun h => h) (fun _ _ h => h) (fun _ _ h => h) (fun _ _ h => h)
  have g2 := (b2.keep pS (rs.fn.lt g) (fun h => h)).trans g
  rw [hsv] at b1
  have s1 := ev_same hO (v := .sl (intRows .i64 sv) tk1) (.inl ⟨_, rfl⟩) rs2.od.ints (by rw [← hsv, List.length_take]; omega)
  obtain ⟨tk2, H3, d1, d2⟩ := ev_credit hO b2.fn ok g2
  have rs3 := rs2.keep d2 (fun h => h) (fun _ _ h => h) (fun _ _ h => h) (fun _ _ h => h)
  rw [hcr] at d1
  have s2 := ev_same hO (v := .sl (intRows .i64 cr) tk2) (.inl ⟨_, rfl⟩) rs3.oc.ints (by rw [← hcr, List.length_take]; omega)
  have L3 := ld rs.at_ 3 d rfl
  have L3b := ld rs2.at_ 3 d rfl
  have L2 := ld rs2.at_ 2 c rfl
  have L2b := ld rs3.at_ 2 c rfl
  simp only [r6_14, opn_z, opn_s, sel_z, sel_s, qCd_eq, qIf_true, qIf_false, qFn_eq, qBl_eq, qO_some, qRes_val, qHp_some, qPick_true, qPick_false, qG_tt, qG_ff, qG_tf, qG_ft, cellsK_some, qLd_vptr, qLdA_vptr, qFa_ptr, qFa_vptr, qNc_ptr, qNc_vptr, qNc_fn, qNot_bool, qExt_tup, qCallV_fn, qLss_int, qLeq_int, qGtr_int, qGeq_int, qEql_int, qNeq_int, qAdd_int, qSub_int, qMul_int, qConvI_int, qLenL_sl, qLenL_hsl, qLenS_str, foldO, min2_int, max2_int, qSame_refl, Nat.zero_add, List.getElem?_cons_zero, List.getElem?_cons_succ, List.nil_append, List.cons_append, List.append_nil, one_bool, one_int, one_str, one_nilp, one_ptr, one_sl, one_hsl, one_map, one_fn, List.length_cons, List.length_nil, List.set_cons_zero, List.set_cons_succ, Nat.reduceLT, Nat.reduceAdd, beq_self_eq_true, Bool.not_true, neB2, bne_self_eq_false, L3, b1, L3b, s1, L2, d1, L2b, s2]
  exact hK H3 (b2.trans d2 (fun _ _ h => h)) _ _ _ _ _ _ _ _ _ _ _ _

theorem plays_0 {H : AH} {q : Int} {costs : List Int} {tkc : Tk} {pS pR : Nat} {s : Sh} {v c d : AV} (hl : costs.length ≤ 200) (hn : s.n = 0) (ok : s.Ok) (g : H.get pS = some (.cells s.cells)) (hne : pS ≠ pR)
    (rs : RS H pR q [] [] [] 0 false v c d) (x0 x1 x6 x11 x12 x13 x14 x22 x31 x43 x64 x103 : AV) :
    qLoop (l6_6 (evl X O) (r6_16 (evl X O) (fun fr H => sel 3 fr = .bool true)) (fun fr H => sel 3 fr = .bool true)) [x0, x1, .sl (intRows .i64 costs) tkc, x6, .ptr pS 0, .ptr pR 0, .int .i64 1, .int .i64 0, x11, x12, x13, x14, x22, x31, x43, x64, x103] H := by
  have na : ∀ {x : AV}, HL H x [] → ∀ j, ¬ adr x j := fun h j hj => by
    rcases h with ⟨rfl, _⟩ | ⟨h, _⟩
    · obtain ⟨n, h⟩ := hj; cases h
    · exact h rfl
  have nt : ∀ j, ¬ tokOf v j := fun j hj => by
    rcases rs.ov with ⟨rfl, _⟩ | ⟨h, _⟩
    · obtain ⟨n, h⟩ := hj; injection h with _ h; cases h
    · exact h rfl
  have nc := na rs.oc
  have nd := na rs.od
  obtain ⟨tkv, hv⟩ := rs.ov.sl
  have hlv : ∀ k : AV → Prop, qLenL v k = k (.int .i64 0) := fun k => by rw [hv]; rfl
  refine loop_inv (fun m fr H => ∃ (t : Nat) (s : Sh) (x0 x1 x6 x11 x12 x13 x14 x22 x31 x43 x64 x103 : AV), m = 200 - t ∧ t ≤ costs.length ∧ fr = [x0, x1, .sl (intRows .i64 costs) tkc, x6, .ptr pS 0, .ptr pR 0, .int .i64 1, .int .i64 (t : Int), x11, x12, x13, x14, x22, x31, x43, x64, x103] ∧ s.n = 0 ∧ s.Ok ∧ H.get pS = some (.cells s.cells) ∧ RS H pR q [] [] [] 0 false v c d) ?_ (m := 200) ?_
  · rintro m fr H k ⟨t, s, x0, x1, x6, x11, x12, x13, x14, x22, x31, x43, x64, x103, rfl, ht, rfl, hn, ok, g, rs⟩ hk
    have hw : IntKind.i64.wrap ((t : Int) + 1) = ((t + 1 : Nat) : Int) := wrap_succ t (by omega)
    by_cases l1 : t + 1 ≤ costs.length
    · have l1' : ((t + 1 : Nat) : Int) ≤ ((intRows .i64 costs).length : Int) := by rw [intRows_len]; omega
      obtain ⟨tks, hs1⟩ := slc22 costs tkc t (t + 1) (by omega) l1
      obtain ⟨tk2, H1, ha1, ha2⟩ := app_copy rs.fn (zs := (costs.take (t + 1)).drop t) (tk := tks) (by
        intro e
        have : ((costs.take (t + 1)).drop t).length = 0 := by rw [e]; rfl
        rw [List.length_drop, List.length_take] at this
        omega) (by rw [List.length_drop, List.length_take]; omega)
      have g1 := (ha2.keep pS (rs.fn.lt g) (fun h => h)).trans g
      have rs1 := rs.keep ha2 (fun h => h) (fun _ _ h => h) (fun _ _ h => h) (fun _ _ h => h)
      obtain ⟨H2, b1, b2, b3⟩ := ev_next_none hO ha2.fn (v := .sl (intRows .i64 ((costs.take (t + 1)).drop t)) tk2) (cs := (costs.take (t + 1)).drop t) ok g1 (.inl ⟨_, rfl⟩) (by rw [hn, Nat.zero_min]; rfl)
      have rs2 := rs1.keep b2 (fun h => hne h.symm) (fun j hj => absurd hj (nt j)) (fun j hj => absurd hj (nc j)) (fun j hj => absurd hj (nd j))
      have ok2 : ({ s with Cr := pad8 [] } : Sh).Ok := ⟨ok.w, pad8_len [] (by decide), ok.v, ok.n8, ok.a, ok.q1, ok.q2, ok.w1, ok.w2⟩
      have L1 := ld rs2.at_ 1 v rfl
      have hg0 : ¬ ((0 : Int) < 0) := by decide
      simp only [l6_6, r6_8, r6_10, r6_11, r6_12, opn_z, opn_s, sel_z, sel_s, qCd_eq, qIf_true, qIf_false, qFn_eq, qBl_eq, qO_some, qRes_val, qHp_some, qPick_true, qPick_false, qG_tt, qG_ff, qG_tf, qG_ft, cellsK_some, qLd_vptr, qLdA_vptr, qFa_ptr, qFa_vptr, qNc_ptr, qNc_vptr, qNc_fn, qNot_bool, qExt_tup, qCallV_fn, qLss_int, qLeq_int, qGtr_int, qGeq_int, qEql_int, qNeq_int, qAdd_int, qSub_int, qMul_int, qConvI_int, qLenL_sl, qLenL_hsl, qLenS_str, foldO, min2_int, max2_int, qSame_refl, Nat.zero_add, List.getElem?_cons_zero, List.getElem?_cons_succ, List.nil_append, List.cons_append, List.append_nil, one_bool, one_int, one_str, one_nilp, one_ptr, one_sl, one_hsl, one_map, one_fn, List.length_cons, List.length_nil, List.set_cons_zero, List.set_cons_succ, Nat.reduceLT, Nat.reduceAdd, hw, l1', decide_true, decide_false, hs1, ha1]
      rw [b1]
      rw [qRes_val]
      simp only [opn_z, opn_s, sel_z, sel_s, qCd_eq, qIf_true, qIf_false, qFn_eq, qBl_eq, qO_some, qRes_val, qHp_some, qPick_true, qPick_false, qG_tt, qG_ff, qG_tf, qG_ft, cellsK_some, qLd_vptr, qLdA_vptr, qFa_ptr, qFa_vptr, qNc_ptr, qNc_vptr, qNc_fn, qNot_bool, qExt_tup, qCallV_fn, qLss_int, qLeq_int, qGtr_int, qGeq_int, qEql_int, qNeq_int, qAdd_int, qSub_int, qMul_int, qConvI_int, qLenL_sl, qLenL_hsl, qLenS_str, foldO, min2_int, max2_int, qSame_refl, Nat.zero_add, List.getElem?_cons_zero, List.getElem?_cons_succ, List.nil_append, List.cons_append, List.append_nil, one_bool, one_int, one_str, one_nilp, one_ptr, one_sl, one_hsl, one_map, one_fn, List.length_cons, List.length_nil, List.set_cons_zero, List.set_cons_succ, Nat.reduceLT, Nat.reduceAdd, L1, hlv, hg0, decide_false]
      have hcr : ({ s with Cr := pad8 [] } : Sh).Cr.take ({ s with Cr := pad8 [] } : Sh).n = [] := by show (pad8 []).take s.n = []; rw [hn]; rfl
      have hsv : ({ s with Cr := pad8 [] } : Sh).Sv.take ({ s with Cr := pad8 [] } : Sh).n = [] := by show s.Sv.take s.n = []; rw [hn]; rfl
      refine plays_cmp hO (s := { s with Cr := pad8 [] }) rs2 hcr hsv ok2 b3 _ _ ?_ _ _ _ _ _ _ _ _
      intro H3 e3
      intro x0 x1 x6 x11 x12 x13 x14 x22 x31 x43 x64 x103
      simp only [r6_9, opn_z, opn_s, sel_z, sel_s, qCd_eq, qIf_true, qIf_false, qFn_eq, qBl_eq, qO_some, qRes_val, qHp_some, qPick_true, qPick_false, qG_tt, qG_ff, qG_tf, qG_ft, cellsK_some, qLd_vptr, qLdA_vptr, qFa_ptr, qFa_vptr, qNc_ptr, qNc_vptr, qNc_fn, qNot_bool, qExt_tup, qCallV_fn, qLss_int, qLeq_int, qGtr_int, qGeq_int, qEql_int, qNeq_int, qAdd_int, qSub_int, qMul_int, qConvI_int, qLenL_sl, qLenL_hsl, qLenS_str, foldO, min2_int, max2_int, qSame_refl, Nat.zero_add, List.getElem?_cons_zero, List.getElem?_cons_succ, List.nil_append, List.cons_append, List.append_nil, one_bool, one_int, one_str, one_nilp, one_ptr, one_sl, one_hsl, one_map, one_fn, List.length_cons, List.length_nil, List.set_cons_zero, List.set_cons_succ, Nat.reduceLT, Nat.reduceAdd, hw]
      exact hk (200 - (t + 1)) _ _ (by omega) ⟨t + 1, { s with Cr := pad8 [] }, _, _, _, _, _, _, _, _, _, _, _, _, rfl, l1, rfl, hn, ok2, (e3.keep pS (b2.fn.lt b3) (fun h => h)).trans b3, rs2.keep e3 (fun h => h) (fun _ _ h => h) (fun _ _ h => h) (fun _ _ h => h)⟩
    · have l1' : ¬ ((t + 1 : Nat) : Int) ≤ ((intRows .i64 costs).length : Int) := by rw [intRows_len]; omega
      obtain ⟨H2, k1, k2⟩ := ev_sawake hO rs.fn
      simp only [l6_6, r6_8, r6_16, opn_z, opn_s, sel_z, sel_s, qCd_eq, qIf_true, qIf_false, qFn_eq, qBl_eq, qO_some, qRes_val, qHp_some, qPick_true, qPick_false, qG_tt, qG_ff, qG_tf, qG_ft, cellsK_some, qLd_vptr, qLdA_vptr, qFa_ptr, qFa_vptr, qNc_ptr, qNc_vptr, qNc_fn, qNot_bool, qExt_tup, qCallV_fn, qLss_int, qLeq_int, qGtr_int, qGeq_int, qEql_int, qNeq_int, qAdd_int, qSub_int, qMul_int, qConvI_int, qLenL_sl, qLenL_hsl, qLenS_str, foldO, min2_int, max2_int, qSame_refl, Nat.zero_add, List.getElem?_cons_zero, List.getElem?_cons_succ, List.nil_append, List.cons_append, List.append_nil, one_bool, one_int, one_str, one_nilp, one_ptr, one_sl, one_hsl, one_map, one_fn, List.length_cons, List.length_nil, List.set_cons_zero, List.set_cons_succ, Nat.reduceLT, Nat.reduceAdd, hw, l1', decide_false, k1]
  · exact ⟨0, s, _, _, _, _, _, _, _, _, _, _, _, _, rfl, by omega, rfl, hn, ok, g, rs⟩

end
end T
set_option linter.unusedVariables false
set_option linter.unusedSimpArgs false
set_option maxRecDepth 10000
namespace T
open Go Go.Aes Go.Proofs

section
variable {O : CallF} (hO : OutO O)
include hO

theorem plays_n {H : AH} {n : Nat} {costs zs : List Int} {tkc tk : Tk} {pS pR ic iv : Nat} {s : Sh} (hl : costs.length ≤ 200) (hn0 : n ≠ 0) (hn : s.n = n) (ok : s.Ok) (g : H.get pS = some (.cells s.cells)) (cb : CB s) (sb : SB s 0) (h1 : pS ≠ pR) (h2 : pS ≠ ic) (h3 : pS ≠ iv)
    (hzs : zs = s.W.take n) (rs : RS H pR s.q zs (s.Cr.take n) (s.Sv.take n) s.pos s.vis (.sl (intRows .i64 zs) tk) (hs ic n) (hs iv n)) (x0 x1 x6 x11 x12 x13 x14 x22 x31 x43 x64 x103 : AV) :
    qLoop (l6_6 (evl X O) (r6_16 (evl X O) (fun fr H => sel 3 fr = .bool true)) (fun fr H => sel 3 fr = .bool true)) [x0, x1, .sl (intRows .i64 costs) tkc, x6, .ptr pS 0, .ptr pR 0, .int .i64 (n : Int), .int .i64 0, x11, x12, x13, x14, x22, x31, x43, x64, x103] H := by
  have hn8 : n ≤ 8 := by have := ok.n8; omega
  have hzl : zs.length = n := by rw [hzs, List.length_take, ok.w]; omega
  generalize hq : s.q = q at rs
  generalize hW : s.W = W at hzs
  refine loop_inv (fun m fr H => ∃ (t : Nat) (s : Sh) (x0 x1 x6 x11 x12 x13 x14 x22 x31 x43 x64 x103 : AV), m = 201 - t ∧ t * n ≤ costs.length ∧ fr = [x0, x1, .sl (intRows .i64 costs) tkc, x6, .ptr pS 0, .ptr pR 0, .int .i64 (n : Int), .int .i64 ((t * n : Nat) : Int), x11, x12, x13, x14, x22, x31, x43, x64, x103] ∧ s.n = n ∧ s.q = q ∧ s.W = W ∧ s.Ok ∧ H.get pS = some (.cells s.cells) ∧ CB s ∧ SB s (50000 * t) ∧
    RS H pR q zs (s.Cr.take n) (s.Sv.take n) s.pos s.vis (.sl (intRows .i64 zs) tk) (hs ic n) (hs iv n)) ?_ (m := 201) ?_
  · rintro m fr H k ⟨t, s, x0, x1, x6, x11, x12, x13, x14, x22, x31, x43, x64, x103, rfl, ht, rfl, hn, hq, hW, ok, g, cb, sb, rs⟩ hk
    have ht2 : t ≤ t * n := Nat.le_mul_of_pos_right t (by omega)
    have hmul : (t + 1) * n = t * n + n := by rw [Nat.add_mul, Nat.one_mul]
    have hw : IntKind.i64.wrap (((t * n : Nat) : Int) + (n : Int)) = (((t + 1) * n : Nat) : Int) := by
      rw [hmul]
      have e : ((t * n : Nat) : Int) + (n : Int) = ((t * n + n : Nat) : Int) := by push_cast; rfl
      rw [e]
      exact i64_in (by omega)
    have hpos : s.pos < s.n := by have := ok.a; omega
    by_cases l1 : (t + 1) * n ≤ costs.length
    · have l1' : (((t + 1) * n : Nat) : Int) ≤ ((intRows .i64 costs).length : Int) := by rw [intRows_len]; omega
      obtain ⟨tks, hs1⟩ := slc22 costs tkc (t * n) ((t + 1) * n) (by omega) l1
      have hcl : ((costs.take ((t + 1) * n)).drop (t * n)).length = n := by rw [List.length_drop, List.length_take]; omega
      generalize (costs.take ((t + 1) * n)).drop (t * n) = cs at *
      obtain ⟨tk2, H1, ha1, ha2⟩ := app_copy rs.fn (zs := cs) (tk := tks) (by intro e; rw [e] at hcl; exact hn0 hcl.symm) (by omega)
      have g1 := (ha2.keep pS (rs.fn.lt g) (fun h => h)).trans g
      have rs1 := rs.keep ha2 (fun h => h) (fun _ _ h => h) (fun _ _ h => h) (fun _ _ h => h)
      have hkeep : ∀ {H2 : AH}, Ext H1 H2 (· = pS) → RS H2 pR q zs (s.Cr.take n) (s.Sv.take n) s.pos s.vis (.sl (intRows .i64 zs) tk) (hs ic n) (hs iv n) := fun e =>
        rs1.keep e (Ne.symm h1) (fun j hj e => by have := rs1.ov.tok_get hj; rw [e, g1] at this; cases this) (fun j hj e => h2 (by rw [← e]; exact adr_hs hj)) (fun j hj e => h3 (by rw [← e]; exact adr_hs hj))
      have hg0 : (0 : Int) < (n : Int) := by omega
      have hzl' : ((intRows .i64 zs).length : Int) = (n : Int) := by rw [intRows_len, hzl]
      have hkeepS : ∀ {H2 H3 : AH} {cs : List AV}, Aes.Fn H2 → Ext H2 H3 (fun j => j = pR ∨ j = ic ∨ j = iv) → H2.get pS = some (.cells cs) → H3.get pS = some (.cells cs) := fun f e g => (e.keep pS (f.lt g) (by omega)).trans g
      have hmin : min s.n cs.length = n := by omega
      cases hsm : someA s.q cs n with
      | true =>
        obtain ⟨j, hj, ha⟩ := someA_spec ok cs (by rw [hmin]; exact hsm)
        obtain ⟨m, R, hr⟩ := srv_some ha _ s (Nat.lt_succ_self _) ok hpos hj cb sb (askA_ab ok cs)
        obtain ⟨H2, b1, b2, b3, b4, b5, b6, b7, b8, b9, b10, b11⟩ := ev_next_some hO ha2.fn (v := .sl (intRows .i64 cs) tk2) (cs := cs) ok hpos cb sb (by omega) g1 (.inl ⟨_, rfl⟩) (by rw [hmin]; exact hsm) hr
        have rs2 := hkeep b2
        rw [← hq] at rs2
        obtain ⟨r, H3, d1, d2, d3, d4⟩ := of_form e28 xf28 (hO _ _ _ (by decide) (by decide)) (ev_rnext hO (tk2 := tks) (Q := fun r H3 => r = .tup [.int .i64 (R.1 : Int), .bool true] ∧ Ext H2 H3 (fun j => j = pR ∨ j = ic ∨ j = iv) ∧ RS H3 pR s.q zs (R.2.Cr.take n) (R.2.Sv.take n) R.2.pos R.2.vis (.sl (intRows .i64 zs) tk) (hs ic n) (hs iv n)) hn (by rw [hW]; exact hzs) hcl ok hpos cb sb (by omega) rs2
          (fun {m' R' H'} _ hr' e' r' => by
            have : R' = R := by
              have e1 := srv_mono (Nat.le_max_left m m') hr
              have e2 := srv_mono (Nat.le_max_right m m') hr'
              rw [e1] at e2
              injection e2 with e2
              exact e2.symm
            subst this
            exact ⟨rfl, e', r'⟩)
          (fun h => by rw [hsm] at h; cases h))
        subst d2
        have g3 := hkeepS b2.fn d3 b3
        have L1 := ld rs2.at_ 1 _ rfl
        simp only [l6_6, r6_8, r6_10, r6_11, r6_12, opn_z, opn_s, sel_z, sel_s, qCd_eq, qIf_true, qIf_false, qFn_eq, qBl_eq, qO_some, qRes_val, qHp_some, qPick_true, qPick_false, qG_tt, qG_ff, qG_tf, qG_ft, cellsK_some, qLd_vptr, qLdA_vptr, qFa_ptr, qFa_vptr, qNc_ptr, qNc_vptr, qNc_fn, qNot_bool, qExt_tup, qCallV_fn, qLss_int, qLeq_int, qGtr_int, qGeq_int, qEql_int, qNeq_int, qAdd_int, qSub_int, qMul_int, qConvI_int, qLenL_sl, qLenL_hsl, qLenS_str, foldO, min2_int, max2_int, qSame_refl, Nat.zero_add, List.getElem?_cons_zero, List.getElem?_cons_succ, List.nil_append, List.cons_append, List.append_nil, one_bool, one_int, one_str, one_nilp, one_ptr, one_sl, one_hsl, one_map, one_fn, List.length_cons, List.length_nil, List.set_cons_zero, List.set_cons_succ, Nat.reduceLT, Nat.reduceAdd, hw, l1', decide_true, hs1, ha1]
        rw [b1]
        rw [qRes_val]
        simp only [r6_13, opn_z, opn_s, sel_z, sel_s, qCd_eq, qIf_true, qIf_false, qFn_eq, qBl_eq, qO_some, qRes_val, qHp_some, qPick_true, qPick_false, qG_tt, qG_ff, qG_tf, qG_ft, cellsK_some, qLd_vptr, qLdA_vptr, qFa_ptr, qFa_vptr, qNc_ptr, qNc_vptr, qNc_fn, qNot_bool, qExt_tup, qCallV_fn, qLss_int, qLeq_int, qGtr_int, qGeq_int, qEql_int, qNeq_int, qAdd_int, qSub_int, qMul_int, qConvI_int, qLenL_sl, qLenL_hsl, qLenS_str, foldO, min2_int, max2_int, qSame_refl, Nat.zero_add, List.getElem?_cons_zero, List.getElem?_cons_succ, List.nil_append, List.cons_append, List.append_nil, one_bool, one_int, one_str, one_nilp, one_ptr, one_sl, one_hsl, one_map, one_fn, List.length_cons, List.length_nil, List.set_cons_zero, List.set_cons_succ, Nat.reduceLT, Nat.reduceAdd, L1, hzl', hg0, decide_true, hw, hs1]
        rw [d1]
        rw [qRes_val]
        simp only [opn_z, opn_s, sel_z, sel_s, qCd_eq, qIf_true, qIf_false, qFn_eq, qBl_eq, qO_some, qRes_val, qHp_some, qPick_true, qPick_false, qG_tt, qG_ff, qG_tf, qG_ft, cellsK_some, qLd_vptr, qLdA_vptr, qFa_ptr, qFa_vptr, qNc_ptr, qNc_vptr, qNc_fn, qNot_bool, qExt_tup, qCallV_fn, qLss_int, qLeq_int, qGtr_int, qGeq_int, qEql_int, qNeq_int, qAdd_int, qSub_int, qMul_int, qConvI_int, qLenL_sl, qLenL_hsl, qLenS_str, foldO, min2_int, max2_int, qSame_refl, Nat.zero_add, List.getElem?_cons_zero, List.getElem?_cons_succ, List.nil_append, List.cons_append, List.append_nil, one_bool, one_int, one_str, one_nilp, one_ptr, one_sl, one_hsl, one_map, one_fn, List.length_cons, List.length_nil, List.set_cons_zero, List.set_cons_succ, Nat.reduceLT, Nat.reduceAdd]
        refine plays_cmp hO (s := R.2) d4 (by rw [b9, hn]) (by rw [b9, hn]) b4 g3 _ _ ?_ _ _ _ _ _ _ _ _
        intro H4 e4
        intro x0 x1 x6 x11 x12 x13 x14 x22 x31 x43 x64 x103
        simp only [r6_9, opn_z, opn_s, sel_z, sel_s, qCd_eq, qIf_true, qIf_false, qFn_eq, qBl_eq, qO_some, qRes_val, qHp_some, qPick_true, qPick_false, qG_tt, qG_ff, qG_tf, qG_ft, cellsK_some, qLd_vptr, qLdA_vptr, qFa_ptr, qFa_vptr, qNc_ptr, qNc_vptr, qNc_fn, qNot_bool, qExt_tup, qCallV_fn, qLss_int, qLeq_int, qGtr_int, qGeq_int, qEql_int, qNeq_int, qAdd_int, qSub_int, qMul_int, qConvI_int, qLenL_sl, qLenL_hsl, qLenS_str, foldO, min2_int, max2_int, qSame_refl, Nat.zero_add, List.getElem?_cons_zero, List.getElem?_cons_succ, List.nil_append, List.cons_append, List.append_nil, one_bool, one_int, one_str, one_nilp, one_ptr, one_sl, one_hsl, one_map, one_fn, List.length_cons, List.length_nil, List.set_cons_zero, List.set_cons_succ, Nat.reduceLT, Nat.reduceAdd, hw]
        rw [hq] at d4
        exact hk (201 - (t + 1)) _ _ (by omega) ⟨t + 1, R.2, _, _, _, _, _, _, _, _, _, _, _, _, rfl, l1, rfl, b9.trans hn, b8.trans hq, b10.trans hW, b4, (e4.keep pS (d4.fn.lt g3) (fun h => h)).trans g3, b6, fun j x h => by have := b7 j x h; omega, d4.keep e4 (fun h => h) (fun _ _ h => h) (fun _ _ h => h) (fun _ _ h => h)⟩
      | false =>
        obtain ⟨H2, b1, b2, b3⟩ := ev_next_none hO ha2.fn (v := .sl (intRows .i64 cs) tk2) (cs := cs) ok g1 (.inl ⟨_, rfl⟩) (by rw [hmin]; exact hsm)
        have rs2 := hkeep b2
        rw [← hq] at rs2
        have ok2 : ({ s with Cr := pad8 [] } : Sh).Ok := ⟨ok.w, pad8_len [] (by decide), ok.v, ok.n8, ok.a, ok.q1, ok.q2, ok.w1, ok.w2⟩
        obtain ⟨r, H3, d1, d2, d3, d4⟩ := of_form e28 xf28 (hO _ _ _ (by decide) (by decide)) (ev_rnext hO (tk2 := tks) (Q := fun r H3 => r = .tup [.int .i64 0, .bool false] ∧ Ext H2 H3 (fun j => j = pR ∨ j = ic ∨ j = iv) ∧ RS H3 pR s.q zs (List.replicate n 0) (s.Sv.take n) s.pos s.vis (.sl (intRows .i64 zs) tk) (hs ic n) (hs iv n)) hn (by rw [hW]; exact hzs) hcl ok hpos cb sb (by omega) rs2
          (fun h => by rw [hsm] at h; cases h)
          (fun _ e' r' => ⟨rfl, e', r'⟩))
        subst d2
        have g3 := hkeepS b2.fn d3 b3
        have L1 := ld rs2.at_ 1 _ rfl
        have hpt := pad0_take n hn8
        simp only [l6_6, r6_8, r6_10, r6_11, r6_12, opn_z, opn_s, sel_z, sel_s, qCd_eq, qIf_true, qIf_false, qFn_eq, qBl_eq, qO_some, qRes_val, qHp_some, qPick_true, qPick_false, qG_tt, qG_ff, qG_tf, qG_ft, cellsK_some, qLd_vptr, qLdA_vptr, qFa_ptr, qFa_vptr, qNc_ptr, qNc_vptr, qNc_fn, qNot_bool, qExt_tup, qCallV_fn, qLss_int, qLeq_int, qGtr_int, qGeq_int, qEql_int, qNeq_int, qAdd_int, qSub_int, qMul_int, qConvI_int, qLenL_sl, qLenL_hsl, qLenS_str, foldO, min2_int, max2_int, qSame_refl, Nat.zero_add, List.getElem?_cons_zero, List.getElem?_cons_succ, List.nil_append, List.cons_append, List.append_nil, one_bool, one_int, one_str, one_nilp, one_ptr, one_sl, one_hsl, one_map, one_fn, List.length_cons, List.length_nil, List.set_cons_zero, List.set_cons_succ, Nat.reduceLT, Nat.reduceAdd, hw, l1', decide_true, hs1, ha1]
        rw [b1]
        rw [qRes_val]
        simp only [r6_13, opn_z, opn_s, sel_z, sel_s, qCd_eq, qIf_true, qIf_false, qFn_eq, qBl_eq, qO_some, qRes_val, qHp_some, qPick_true, qPick_false, qG_tt, qG_ff, qG_tf, qG_ft, cellsK_some, qLd_vptr, qLdA_vptr, qFa_ptr, qFa_vptr, qNc_ptr, qNc_vptr, qNc_fn, qNot_bool, qExt_tup, qCallV_fn, qLss_int, qLeq_int, qGtr_int, qGeq_int, qEql_int, qNeq_int, qAdd_int, qSub_int, qMul_int, qConvI_int, qLenL_sl, qLenL_hsl, qLenS_str, foldO, min2_int, max2_int, qSame_refl, Nat.zero_add, List.getElem?_cons_zero, List.getElem?_cons_succ, List.nil_append, List.cons_append, List.append_nil, one_bool, one_int, one_str, one_nilp, one_ptr, one_sl, one_hsl, one_map, one_fn, List.length_cons, List.length_nil, List.set_cons_zero, List.set_cons_succ, Nat.reduceLT, Nat.reduceAdd, L1, hzl', hg0, decide_true, hw, hs1]
        rw [d1]
        rw [qRes_val]
        simp only [opn_z, opn_s, sel_z, sel_s, qCd_eq, qIf_true, qIf_false, qFn_eq, qBl_eq, qO_some, qRes_val, qHp_some, qPick_true, qPick_false, qG_tt, qG_ff, qG_tf, qG_ft, cellsK_some, qLd_vptr, qLdA_vptr, qFa_ptr, qFa_vptr, qNc_ptr, qNc_vptr, qNc_fn, qNot_bool, qExt_tup, qCallV_fn, qLss_int, qLeq_int, qGtr_int, qGeq_int, qEql_int, qNeq_int, qAdd_int, qSub_int, qMul_int, qConvI_int, qLenL_sl, qLenL_hsl, qLenS_str, foldO, min2_int, max2_int, qSame_refl, Nat.zero_add, List.getElem?_cons_zero, List.getElem?_cons_succ, List.nil_append, List.cons_append, List.append_nil, one_bool, one_int, one_str, one_nilp, one_ptr, one_sl, one_hsl, one_map, one_fn, List.length_cons, List.length_nil, List.set_cons_zero, List.set_cons_succ, Nat.reduceLT, Nat.reduceAdd]
        refine plays_cmp hO (s := { s with Cr := pad8 [] }) d4 (by rw [← hpt, ← hn]) (by rw [← hn]) ok2 g3 _ _ ?_ _ _ _ _ _ _ _ _
        intro H4 e4
        intro x0 x1 x6 x11 x12 x13 x14 x22 x31 x43 x64 x103
        simp only [r6_9, opn_z, opn_s, sel_z, sel_s, qCd_eq, qIf_true, qIf_false, qFn_eq, qBl_eq, qO_some, qRes_val, qHp_some, qPick_true, qPick_false, qG_tt, qG_ff, qG_tf, qG_ft, cellsK_some, qLd_vptr, qLdA_vptr, qFa_ptr, qFa_vptr, qNc_ptr, qNc_vptr, qNc_fn, qNot_bool, qExt_tup, qCallV_fn, qLss_int, qLeq_int, qGtr_int, qGeq_int, qEql_int, qNeq_int, qAdd_int, qSub_int, qMul_int, qConvI_int, qLenL_sl, qLenL_hsl, qLenS_str, foldO, min2_int, max2_int, qSame_refl, Nat.zero_add, List.getElem?_cons_zero, List.getElem?_cons_succ, List.nil_append, List.cons_append, List.append_nil, one_bool, one_int, one_str, one_nilp, one_ptr, one_sl, one_hsl, one_map, one_fn, List.length_cons, List.length_nil, List.set_cons_zero, List.set_cons_succ, Nat.reduceLT, Nat.reduceAdd, hw]
        rw [hq, ← hpt] at d4
        exact hk (201 - (t + 1)) _ _ (by omega) ⟨t + 1, { s with Cr := pad8 [] }, _, _, _, _, _, _, _, _, _, _, _, _, rfl, l1, rfl, hn, hq, hW, ok2, (e4.keep pS (d4.fn.lt g3) (fun h => h)).trans g3, fun j x h => by have := pad0_get h; omega, fun j x h => by have := sb j x h; omega, d4.keep e4 (fun h => h) (fun _ _ h => h) (fun _ _ h => h) (fun _ _ h => h)⟩
    · have l1' : ¬ (((t + 1) * n : Nat) : Int) ≤ ((intRows .i64 costs).length : Int) := by rw [intRows_len]; omega
      obtain ⟨H2, k1, k2⟩ := ev_sawake hO rs.fn
      simp only [l6_6, r6_8, r6_16, opn_z, opn_s, sel_z, sel_s, qCd_eq, qIf_true, qIf_false, qFn_eq, qBl_eq, qO_some, qRes_val, qHp_some, qPick_true, qPick_false, qG_tt, qG_ff, qG_tf, qG_ft, cellsK_some, qLd_vptr, qLdA_vptr, qFa_ptr, qFa_vptr, qNc_ptr, qNc_vptr, qNc_fn, qNot_bool, qExt_tup, qCallV_fn, qLss_int, qLeq_int, qGtr_int, qGeq_int, qEql_int, qNeq_int, qAdd_int, qSub_int, qMul_int, qConvI_int, qLenL_sl, qLenL_hsl, qLenS_str, foldO, min2_int, max2_int, qSame_refl, Nat.zero_add, List.getElem?_cons_zero, List.getElem?_cons_succ, List.nil_append, List.cons_append, List.append_nil, one_bool, one_int, one_str, one_nilp, one_ptr, one_sl, one_hsl, one_map, one_fn, List.length_cons, List.length_nil, List.set_cons_zero, List.set_cons_succ, Nat.reduceLT, Nat.reduceAdd, hw, l1', decide_false, k1]
  · exact ⟨0, s, _, _, _, _, _, _, _, _, _, _, _, _, rfl, by rw [Nat.zero_mul]; omega, by rw [Nat.zero_mul]; rfl, hn, hq, hW, ok, g, cb, sb, rs⟩

end
end T
set_option linter.unusedVariables false
set_option linter.unusedSimpArgs false
set_option maxRecDepth 10000
namespace T
open Go Go.Aes Go.Proofs

section
variable {O : CallF} (hO : OutO O)
include hO

theorem ev_shplays (q0 : Int) (ws : List Int) (tk1 : Tk) (costs : List Int) (tkc : Tk) :
    ∃ H', evl X O 6 [.int .i64 q0, .sl (intRows .i64 ws) tk1, .sl (intRows .i64 costs) tkc] H0 = some (.val (.bool true) H') := by
  suffices h : c6 (evl X O) [.int .i64 q0, .sl (intRows .i64 ws) tk1, .sl (intRows .i64 costs) tkc] H0 (fun v _ => v = .bool true) by
    obtain ⟨v, H', h1, rfl⟩ := of_form e6 xf6 (hO _ _ _ (by decide) (by decide)) h
    exact ⟨H', h1⟩
  obtain ⟨Hx, k1, k2⟩ := ev_sawake hO .H0
  by_cases l1 : ws.length ≤ 20
  · have l1' : ¬ (20 < ((intRows .i64 ws).length : Int)) := by rw [intRows_len]; omega
    by_cases l2 : costs.length ≤ 200
    · have l2' : ¬ (200 < ((intRows .i64 costs).length : Int)) := by rw [intRows_len]; omega
      obtain ⟨H1, a1, a2⟩ := ev_snew hO .H0 q0 (ws := ws) (v := .sl (intRows .i64 ws) tk1) (.inl ⟨_, rfl⟩) (by unfold Go.maxLen; omega)
      obtain ⟨pR, v, c, d, H2, b1, b2, b3, b4, b5, rs⟩ := ev_refnew hO a2.fn q0 ws tk1
      have g2 := (b2.keep _ (a2.fn.lt a2.at_) (fun h => h)).trans a2.at_
      have hlt := a2.fn.lt a2.at_
      rw [H0_nx] at *
      generalize hn : min ws.length 8 = n at *
      have hn8 : n ≤ 8 := by omega
      have hnn : (newSh q0 ws n).n = n := by show min ws.length 8 = n; exact hn
      have ok := newSh_full q0 ws n hn8 (by omega)
      have hzs : (ws.take n).map cutW = (newSh q0 ws n).W.take n := by
        show _ = (pad8 ((ws.take n).map cutW)).take n
        have := pad8_take ((ws.take n).map cutW)
        rw [List.length_map, List.length_take, Nat.min_eq_left (by omega)] at this
        exact this.symm
      obtain ⟨tk, hv⟩ := rs.ov.sl
      have hzl : ((ws.take n).map cutW).length = n := by simp; omega
      have L1 := ld rs.at_ 1 v rfl
      have hlv : ∀ k : AV → Prop, qLenL v k = k (.int .i64 (n : Int)) := fun k => by rw [hv, qLenL_sl, intRows_len, hzl]
      simp only [c6, r6_0, r6_1, r6_3, r6_4, r6_6, r6_7, opn_z, opn_s, sel_z, sel_s, qCd_eq, qIf_true, qIf_false, qFn_eq, qBl_eq, qO_some, qRes_val, qHp_some, qPick_true, qPick_false, qG_tt, qG_ff, qG_tf, qG_ft, cellsK_some, qLd_vptr, qLdA_vptr, qFa_ptr, qFa_vptr, qNc_ptr, qNc_vptr, qNc_fn, qNot_bool, qExt_tup, qCallV_fn, qLss_int, qLeq_int, qGtr_int, qGeq_int, qEql_int, qNeq_int, qAdd_int, qSub_int, qMul_int, qConvI_int, qLenL_sl, qLenL_hsl, qLenS_str, foldO, min2_int, max2_int, qSame_refl, Nat.zero_add, List.getElem?_cons_zero, List.getElem?_cons_succ, List.nil_append, List.cons_append, List.append_nil, one_bool, one_int, one_str, one_nilp, one_ptr, one_sl, one_hsl, one_map, one_fn, List.length_cons, List.length_nil, List.set_cons_zero, List.set_cons_succ, Nat.reduceLT, Nat.reduceAdd, l1', l2', decide_false, a1, b1, eq_nil37, L1, hlv]
      by_cases h0 : n = 0
      · subst h0
        have : max ((0 : Nat) : Int) 1 = 1 := rfl
        rw [this]
        exact plays_0 hO (s := newSh q0 ws 0) l2 hnn ok g2 (by omega) rs _ _ _ _ _ _ _ _ _ _ _ _
      · have : max (n : Int) 1 = (n : Int) := by omega
        rw [this]
        have hc : ∃ i, c = hs i n := by
          rcases rs.oc with ⟨_, h⟩ | ⟨_, i, h, _⟩
          · have : (List.replicate n (0 : Int)).length = 0 := by rw [h]; rfl
            rw [List.length_replicate] at this
            exact absurd this h0
          · rw [List.length_replicate] at h; exact ⟨i, h⟩
        have hd : ∃ i, d = hs i n := by
          rcases rs.od with ⟨_, h⟩ | ⟨_, i, h, _⟩
          · have : (List.replicate n (0 : Int)).length = 0 := by rw [h]; rfl
            rw [List.length_replicate] at this
            exact absurd this h0
          · rw [List.length_replicate] at h; exact ⟨i, h⟩
        obtain ⟨ic, rfl⟩ := hc
        obtain ⟨iv, rfl⟩ := hd
        subst hv
        have x1 := b4 ic ⟨n, rfl⟩
        have x2 := b5 iv ⟨n, rfl⟩
        have hpt := pad0_take n hn8
        rw [← hpt] at rs
        exact plays_n hO (s := newSh q0 ws n) l2 h0 hnn ok g2 (newSh_cb _ _ _) (newSh_sb _ _ _) (by omega) (by omega) (by omega) hzs rs _ _ _ _ _ _ _ _ _ _ _ _
    · have l2' : 200 < ((intRows .i64 costs).length : Int) := by rw [intRows_len]; omega
      simp only [c6, r6_0, r6_1, r6_2, opn_z, opn_s, sel_z, sel_s, qCd_eq, qIf_true, qIf_false, qFn_eq, qBl_eq, qO_some, qRes_val, qHp_some, qPick_true, qPick_false, qG_tt, qG_ff, qG_tf, qG_ft, cellsK_some, qLd_vptr, qLdA_vptr, qFa_ptr, qFa_vptr, qNc_ptr, qNc_vptr, qNc_fn, qNot_bool, qExt_tup, qCallV_fn, qLss_int, qLeq_int, qGtr_int, qGeq_int, qEql_int, qNeq_int, qAdd_int, qSub_int, qMul_int, qConvI_int, qLenL_sl, qLenL_hsl, qLenS_str, foldO, min2_int, max2_int, qSame_refl, Nat.zero_add, List.getElem?_cons_zero, List.getElem?_cons_succ, List.nil_append, List.cons_append, List.append_nil, one_bool, one_int, one_str, one_nilp, one_ptr, one_sl, one_hsl, one_map, one_fn, List.length_cons, List.length_nil, List.set_cons_zero, List.set_cons_succ, Nat.reduceLT, Nat.reduceAdd, l1', l2', decide_true, decide_false, k1]
  · have l1' : 20 < ((intRows .i64 ws).length : Int) := by rw [intRows_len]; omega
    simp only [c6, r6_0, r6_1, r6_2, opn_z, opn_s, sel_z, sel_s, qCd_eq, qIf_true, qIf_false, qFn_eq, qBl_eq, qO_some, qRes_val, qHp_some, qPick_true, qPick_false, qG_tt, qG_ff, qG_tf, qG_ft, cellsK_some, qLd_vptr, qLdA_vptr, qFa_ptr, qFa_vptr, qNc_ptr, qNc_vptr, qNc_fn, qNot_bool, qExt_tup, qCallV_fn, qLss_int, qLeq_int, qGtr_int, qGeq_int, qEql_int, qNeq_int, qAdd_int, qSub_int, qMul_int, qConvI_int, qLenL_sl, qLenL_hsl, qLenS_str, foldO, min2_int, max2_int, qSame_refl, Nat.zero_add, List.getElem?_cons_zero, List.getElem?_cons_succ, List.nil_append, List.cons_append, List.append_nil, one_bool, one_int, one_str, one_nilp, one_ptr, one_sl, one_hsl, one_map, one_fn, List.length_cons, List.length_nil, List.set_cons_zero, List.set_cons_succ, Nat.reduceLT, Nat.reduceAdd, l1', decide_true, k1]

end
#print axioms ev_shplays
end T
