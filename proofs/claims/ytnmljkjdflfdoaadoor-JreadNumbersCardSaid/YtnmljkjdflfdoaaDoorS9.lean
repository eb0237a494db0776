import Derived.Test.YtnmljkjdflfdoaaDoorS8
import Derived.WalkKit
import Derived.ProofKit
import Derived.OpenShut
import Derived.ChangeSame
import Derived.ChangeSlices
import Derived.WideKeyArgs
import Derived.Deep.Frames
import Derived.Deep.Grids
set_option linter.all false
set_option linter.unusedVariables false
set_option linter.unusedSimpArgs false
namespace Go.Aes
open Go.RowKit Go.WideShapes Go.ChangeShapes

/-! ### the empty heap, to be reasoned with -/
def H0 : AH := .fn (fun _ => none) 0 (fun _ _ => rfl)

/-- at the start: what is there stays -/
noncomputable def K0 (w : World) : KC := ⟨fun b o => if b < w.heap.size then w.cell? ⟨b, o, none⟩ else none, fun _ => none, fun _ => none, fun _ _ => True⟩

theorem RW.start (w : World) (H : AH) (h : ∀ i, H.get i = none) : RW w.heap.size w (K0 w) H w where
  below := .refl _ _
  le := Nat.le_refl _
  fr := fun b o v hf => by
    simp only [K0] at hf
    split at hf
    · exact hf
    · cases hf
  obj := fun i o hg => by rw [h] at hg; cases hg
  low := fun i b hb => by simp [own, h] at hb
  sep := fun i j b hi hj => by simp [own, h] at hi
  fresh := fun i _ => ⟨rfl, rfl⟩
  zz := fun _ _ _ _ => .inr trivial

theorem K0_F {w : World} {b o : Nat} {v : Value} (h : w.cell? ⟨b, o, none⟩ = some v) : (K0 w).F b o = some v := by
  simp only [K0]
  rw [if_pos (World.block_lt_of_cell? w _ h)]
  exact h

/-- what is worked out holds of the program -/
theorem law_calls {X : Cx} {P : Program} {O : CallF} (ok : PrOk X P) (ho : ∀ B W, CallOk P B W O) {g : Nat} {as : List AV} {vs : Array Value} {w : World} {H H' : AH} {b : Bool} (hH : ∀ i, H.get i = none)
    (ha : RL (K0 w) as vs.toList) (h : evl X O g as H = some (.val (.bool b) H')) : Calls P g vs w fun e w' => e = .returned (.bool b) ∧ Below w.heap.size w w' := by
  have hc := (evl_ok (B := w.heap.size) (W := w) ok (ho _ _)).call g as H _ h (K0 w) w vs.toList (RW.start w H hH) ha
  have : vs.toList.toArray = vs := by simp
  rw [this] at hc
  refine hc.mono fun e w' hp => ?_
  cases e <;> simp only [CPost] at hp
  obtain ⟨K', h1, h2, h3⟩ := hp
  have := h1.bool_inv
  subst this
  exact ⟨rfl, h2.below⟩

/-! ### arguments -/
theorem RL.one {K : KC} {a : AV} {v : Value} (h : RV K a v) : RL K [a] [v] := .cons h .nil

def intRows (k : IntKind) (zs : List Int) : List (List AV) := zs.map fun n => [.int k n]
def boolRows (zs : List Bool) : List (List AV) := zs.map fun b => [.bool b]
/-- a slice that came in: nobody appends to it -/
def inSl (rows : List (List AV)) (isn : Bool) : AV := .sl rows (bif isn then .nil else .dead)

theorem rv_rows1 {w : World} {b o len cap : Nat} {vs : List Value} {rows : List (List AV)} (hl : rows.length = len) (hc : len ≤ cap) (hr : ∀ (i : Nat) (r : List AV), rows[i]? = some r → ∃ a v, r = [a] ∧ w.cell? ⟨b, o + i, none⟩ = some v ∧ RV (K0 w) a v) :
    RV (K0 w) (.sl rows .dead) (.slice (some ⟨b, o, none⟩) len cap) := by
  subst hl
  have key : ∀ (i : Nat) (r : List AV) (j : Nat) (a : AV), rows[i]? = some r → r[j]? = some a → ∃ v, j = 0 ∧ w.cell? ⟨b, o + i, none⟩ = some v ∧ RV (K0 w) a v := by
    intro i r j a h1 h2
    obtain ⟨a', v, rfl, h3, h4⟩ := hr i r h1
    cases j with
    | zero => simp at h2; subst h2; exact ⟨v, rfl, h3, h4⟩
    | succ j => simp at h2
  refine .sl rows .dead b o cap 1 (fun k => (w.cell? ⟨b, o + k, none⟩).getD Go.undef) (by omega) (fun r hm => ?_) (fun i r j a h1 h2 => ?_) (fun i r j a h1 h2 => ?_) hc trivial
  · obtain ⟨i, hi, rfl⟩ := List.mem_iff_getElem.1 hm
    obtain ⟨a, v, h1, _⟩ := hr i _ (List.getElem?_eq_getElem hi)
    rw [h1]; rfl
  · obtain ⟨v, rfl, h3, h4⟩ := key i r j a h1 h2
    simp only [Nat.mul_one, Nat.add_zero]
    rw [h3]
    exact K0_F h3
  · obtain ⟨v, rfl, h3, h4⟩ := key i r j a h1 h2
    simp only [Nat.mul_one, Nat.add_zero]
    rw [h3]
    exact h4

section
variable {H : Type} {enc : TypeId × Value → H} {P : Program} {w : World} {base : Nat} {spare : Nat → Bool} {held : Bool}

theorem spot_none {r : Reach} {b0 : Nat} {t e : TypeId} {a : Addr} {len cap : Nat} (ht : P.underlying t = some (.slice e)) (hval : Value.okWide P w r b0 t (.slice (some a) len cap)) : a.spot = none := by
  simp only [Value.okWide, ht, Cell.okWide, Cell.ok] at hval
  exact hval.2.2.2.1

theorem arg_ints {r : Reach} {b0 : Nat} {t e : TypeId} {k : IntKind} {v : Value} {d : DataW H} {ps : List MemPlace} (ht : P.underlying t = some (.slice e)) (he : P.underlying e = some (.int k)) (hc : P.cellsOf e = 1)
    (hval : Value.okWide P w r b0 t v) (hd : DataW.Trod enc P w base spare held t v d ps) :
    ∃ (zs : List Int) (isn : Bool), (isn = true → zs = []) ∧ (∀ n ∈ zs, (Lit.int k n).wf = true) ∧ zs.length ≤ maxLen ∧ RV (K0 w) (inSl (intRows k zs) isn) v := by
  obtain ⟨fuel, hd⟩ := hd
  rcases open_ints ht he hc hd with ⟨hcs, _⟩ | ⟨a, len, cap, zs, hcs, hb, hl, hm, hz, hx, hcell, hw⟩
  · refine ⟨[], true, fun _ => rfl, by simp, by simp, ?_⟩
    have : v = .slice none 0 0 := by cases v <;> simp [Value.cells] at hcs <;> simp_all [Value.okWide, Cell.okWide, Cell.ok]
    subst this
    exact .slNil
  · have : v = .slice (some a) len cap := by cases v <;> simp [Value.cells] at hcs <;> simp_all [Value.okWide, Cell.okWide, Cell.ok]
    subst this
    have hsp := spot_none ht hval
    obtain ⟨b, o, sp⟩ := a
    simp only at hsp
    subst hsp
    have hlen : len ≤ zs.length := by rw [hz]; split <;> omega
    refine ⟨zs.take len, false, (fun h => by cases h), (fun n hn => hw n (List.mem_of_mem_take hn)), (by rw [List.length_take]; omega), ?_⟩
    refine rv_rows1 (vs := []) (by simp [intRows]; omega) hl (fun i r hi => ?_)
    simp only [intRows, List.getElem?_map, Option.map_eq_some_iff] at hi
    obtain ⟨n, h1, rfl⟩ := hi
    rw [List.getElem?_take] at h1
    split at h1
    · rename_i hil
      have h2 := hcell i (by omega)
      have h3 : zs.getD i 0 = n := by rw [List.getD_eq_getElem?_getD, h1]; rfl
      rw [h3] at h2
      exact ⟨_, _, rfl, by rw [add_plain] at h2; exact h2, .int k n⟩
    · cases h1

theorem trodAll_stays (hl : laidOutB P = true) {W W' : World} {sp' : Nat → Bool} : ∀ {ts : List TypeId} {vs : List Value} {ds : List (DataW H)} {ps : List MemPlace}, (∀ t ∈ ts, P.readableRec t = true ∧ t < P.types.size) →
    DataW.TrodAll enc P W base (fun _ => true) true ts vs ds ps → (∀ p ∈ ps, W.sameAt W' p) → (∀ p ∈ ps, sp' p.block = true) → DataW.TrodAll enc P W' base sp' true ts vs ds ps
  | [], vs, ds, ps, ht, h, _, _ => by
    obtain ⟨rfl, rfl, rfl⟩ := trodAll_nil h
    exact rfl
  | t :: ts, vs, ds, ps, ht, h, hs, hp => by
    obtain ⟨v, vs', d, ds', p, q, rfl, rfl, rfl, h1, h2⟩ := trodAll_cons h
    obtain ⟨r1, r2⟩ := ht t (by simp)
    exact ⟨p, q, WideElems.Trod_stays hl r1 r2 h1 (fun x hx => hs x (by simp [hx])) (fun x hx => hp x (by simp [hx])), trodAll_stays hl (fun t ht' => ht t (by simp [ht'])) h2 (fun x hx => hs x (by simp [hx])) (fun x hx => hp x (by simp [hx])), rfl⟩

theorem Below.sameAt' {W W' : World} (h : Below W.heap.size W W') {p : MemPlace} (hb : p.block < W.heap.size) : W.sameAt W' p := by
  cases p with
  | cell b o => exact World.cell?_of_block (h.block b hb)
  | map b => exact h.block b hb

/-- a law's end: true, and what came in reads as it did -/
theorem law_post {f : Func} {s : ChangeSpec} {W W' : World} {args : Array Value} {ds gs : List (DataW H)} {before : List MemPlace} {tb : TypeId}
    (hW : DataW.Whole enc P f.params.toList s.vars false W args.toList ds gs before) (hv : s.vars = [])
    (hfn : (s.fn H ds).results = [.lit (.bool true)] ∧ (s.fn H ds).args = ds ∧ (s.fn H ds).vars = [])
    (hres : f.resultTypes = #[tb]) (htb : P.underlying tb = some .bool) (hl : laidOutB P = true) (hr : ∀ t ∈ f.params.toList, P.readableRec t = true ∧ t < P.types.size) (hb : Below W.heap.size W W') :
    s.post enc P f false true false false W args (.bool true) W' := by
  have hW' := hW
  obtain ⟨p, q, hA, hV, hps, hz, hn⟩ := hW
  rw [hv] at hV
  obtain ⟨hgs, hq⟩ : gs = [] ∧ q = [] := by
    cases gs with
    | nil => exact ⟨rfl, hV⟩
    | cons a b => exact hV.elim
  subst hgs; subst hq
  simp only [List.append_nil] at hps
  subst hps
  have hlt : ∀ x ∈ before, x.block < W.heap.size := fun x hx => hW'.lt x hx
  have hsame : ∀ x ∈ before, W.sameAt W' x := fun x hx => Below.sameAt' hb (hlt x hx)
  have hold : ∀ x ∈ before, (fun b => decide (b < W.heap.size)) x.block = true := fun x hx => by simpa using hlt x hx
  have hargs : ∀ sp : Nat → Bool, (∀ x ∈ before, sp x.block = true) → DataW.TrodAll enc P W' 0 sp true f.params.toList args.toList (s.fn H (ds ++ [])).args before := by
    intro sp hsp
    rw [List.append_nil, hfn.2.1]
    exact trodAll_stays hl hr hA hsame hsp
  have hres' : ∀ (b : Nat) (sp : Nat → Bool) (hd : Bool), DataW.TrodAll enc P W' b sp hd f.resultTypes.toList ((Value.bool true).resultList f.resultTypes.size) (s.fn H (ds ++ [])).results [] := by
    intro b sp hd
    rw [List.append_nil, hfn.1, hres]
    exact trodAll_cons_mk (shut_bool htb _) trodAll_mk0
  have hvars : ∀ sp : Nat → Bool, DataW.TrodVars enc P W' sp s.vars (s.fn H (ds ++ [])).vars [] := by
    intro sp
    rw [List.append_nil, hfn.2.2, hv]
    exact rfl
  refine ⟨ds, [], before, [], before, [], hW', hres' _ _ _, hargs _ hold, hvars _, World.keptBut_mono (fun x hx => ⟨hx, ?_⟩) (hb.frame (· ∈ before)), fun _ => ?_⟩
  · exact Or.inr (by simpa using hx)
  · refine ⟨ok_one hres rfl (okWide_bool_mk htb _), _, _, ([] ++ before) ++ [], ⟨[] ++ before, [], trodAll_append (hargs _ (fun _ _ => rfl)) (hres' _ _ _), hvars _, rfl, ?_, fun h => by cases h⟩, ?_⟩
    · intro b off hp
      have hin : MemPlace.cell b off ∈ before := by simpa using hp
      rw [hb.frozen (hlt _ hin)]
      exact hz b off hin
    · intro x hx _
      simpa using hx

end
end Go.Aes
